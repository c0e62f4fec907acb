/-
 dragnetref15.choices.
-/
import Derived.Test.YtlgjaefcfnndhaaGreatDoorP38
import Derived.Test.YtlgjaefcfnndhaaGreatDoorP39
import Derived.Test.YtlgjaefcfnndhaaGreatDoorP15
import Derived.Test.YtlgjaefcfnndhaaGreatDoorP37
set_option linter.unusedVariables false
set_option linter.unusedSimpArgs false
set_option maxHeartbeats 16000000
set_option maxRecDepth 100000
namespace Go.Proofs.YtlgjaefcfnndhaaGreatDoor
section
open Go.RowKit
theorem Tryz.infoIL : (Tryz.prog.info? 22).map (fun i => (i.zero, i.size, i.bytes)) = some (some (.slice none 0 0), 1, 24) := by kernel_rfl
theorem Tryz.infoIn : (Tryz.prog.info? 3).map (fun i => (i.zero, i.size, i.bytes)) = some (some (.int .i64 0), 1, 8) := by kernel_rfl
def EN (w : World) (F : Nat → Prop) (v : Value) (L : List Nat) : Prop := Rd w F 1 v L.length (natsV L)
theorem lasts_EN : Lasts EN where
 keep h o hd := Rd.keep h o hd
 mono h hs := Rd.mono h hs
 there h := Rd.thereN h
 one h := by obtain ⟨A, c, rfl, _⟩ := Rd.form h; rfl
section
variable {P : Program} {ops : Array Oper}
theorem qaz {Q : Exit → Act → World → Prop} {rest : List Oper} {o : Oper} {a : Act} (w : World) (hw : Region.wanted o (yielded ops a.tmps) = true) (s x : Operand) (t : TypeId) (ho : o.op = .call { callee := .builtin .append, args := #[s, x], argTypes := #[t, t] }) {vs vx : Value} (hs : a.eval s = vs) (hx : a.eval x = vx) {v' : Value} {w' : World}
  (hr : (Builtin.append_ #[t, t] o.type #[vs, vx]).run P w = .ok v' w') (h : wpList P ops Q rest (a.put o.dst v') w') : wpList P ops Q (o :: rest) a w := by
 unfold wpList
 rw [if_pos hw]
 exact .inl (Lib.wp_append_run w s x t t ho vs vx hs hx v' w' hr h)
end
theorem qoo (w : World) (xs : List Value) (t : TypeId) (n sz : Nat) (hl : xs.length = n * sz) (hn : n ≤ maxLen) : Rd (w.alloc (.cells xs.toArray t)) (fun _ => True) sz (.slice (some ⟨w.heap.size, 0, none⟩) n n) n xs :=
 ⟨_, _, rfl, hn, hl, fun _ => ⟨w.heap.size, 0, rfl, trivial, by simp, fun j y hy => by
  rw [Nat.zero_add, (Blk.new w t xs.toArray).cell]
  simpa using hy⟩⟩
theorem qx8 {w0 wr : World} {x u : Value} {Bs : List (List Nat)} {c : List Nat} {F : Nat → Prop} (m : Nat) (hg : GrowL EN w0 22 x Bs wr) (hu : EN wr F u c) (hc : c.length ≤ 60) (hn : Bs.length ≤ 999999) :
  ∃ v1 w1 A2 n2 c2 w2 x' w3, (Builtin.append_ #[22, 22] 22 #[.slice (some ⟨wr.heap.size, 0, none⟩) 0 0, u]).run Tryz.prog (wr.alloc (.cells #[] 3)) = .ok v1 w1 ∧ (Builtin.append_ #[22, 22] 22 #[v1, .slice (some ⟨w1.heap.size, 0, none⟩) 1 1]).run Tryz.prog (w1.alloc (.cells #[.int .i64 (m : Int)] 3)) = .ok (.slice A2 n2 c2) w2 ∧ (Builtin.append_ #[148, 148] 148 #[x, .slice (some ⟨w2.heap.size, 0, none⟩) 1 1]).run Tryz.prog (w2.alloc (.cells #[.slice A2 n2 c2] 22)) = .ok x' w3 ∧ GrowL EN w0 22 x' (Bs ++ [c ++ [m]]) w3 := by
 obtain ⟨i0, h0, z0, s0, b0⟩ := info_parts Tryz.infoIn
 obtain ⟨i1, h1, z1, s1, b1⟩ := info_parts Tryz.infoIL
 have ow0 : OwnL wr (wr.alloc (.cells #[] 3)) 3 1 (.slice (some ⟨wr.heap.size, 0, none⟩) 0 0) 0 [] := ⟨World.ownsRow_made wr #[] 0 (Nat.le_refl _) (by decide) rfl, oAl oRf _⟩
 obtain ⟨v1, w1, r1, own1, g1, -⟩ := qge Tryz.underlying22 h0 z0 s0 b0 rfl (by decide) _ wr.heap.size ow0.1 (hu.keep ow0.2 (fun _ _ h => h)) (fun y hy => by obtain ⟨k, _, rfl⟩ := List.mem_map.1 hy; rfl) (by omega) (by decide) ow0.2.size
 have ow1 := ow0.grown (Off.refl Nob _) own1 g1
 rw [Nat.zero_add, List.nil_append] at ow1
 have ow2 : OwnL wr (w1.alloc (.cells #[.int .i64 (m : Int)] 3)) 3 1 v1 c.length (natsV c) := ow1.off (oAl oRf _)
 obtain ⟨v2, w2, r2, own2, g2, -⟩ := qge Tryz.underlying22 h0 z0 s0 b0 rfl (by decide) _ wr.heap.size ow2.1 (qoo w1 [.int .i64 (m : Int)] 3 1 1 rfl (by unfold maxLen; omega)) (fun y hy => by rw [List.mem_singleton.1 hy]; rfl) (by omega) (by decide) ow2.2.size
 have ow3 := ow2.grown (Off.refl Nob _) own2 g2
 obtain ⟨A2, c2, rfl⟩ := ow3.form
 have hg2 := hg.go lasts_EN ow3.2
 have hb : ∀ k, wr.heap.size ≤ k → w0.heap.size ≤ k ∧ x.ownBlock ≠ some k := fun k hk => by
  refine ⟨Nat.le_trans hg.o.size hk, fun e => ?_⟩
  obtain ⟨vs, _, h2, _⟩ := hg.x
  have := (h2.lt k e).2
  omega
 have he : EN w2 (fun k => w0.heap.size ≤ k ∧ x.ownBlock ≠ some k) (.slice A2 (c.length + 1) c2) (c ++ [m]) := by
  have h := Rd.own ow3.1 (F := fun k => w0.heap.size ≤ k ∧ x.ownBlock ≠ some k) (fun k hk => hb k (ow3.1.lt k hk).1)
  unfold EN
  rw [qej, List.length_append]
  exact h
 obtain ⟨x', w3, r3, hg3, -, -⟩ := hg2.push lasts_EN Tryz.underlying148 h1 z1 s1 b1 he hn
 exact ⟨v1, w1, A2, _, c2, w2, x', w3, r1, r2, r3, hg3⟩
/-! ### plain -/
theorem qi3 : ∀ (a b : List El), cntN (a ++ b) = cntN a * cntN b
 | [], b => by simp [cntN]
 | x :: a, b => by simp only [List.cons_append, cntN, qi3 a b, Nat.mul_assoc]
theorem qop : ∀ (a : List El), (∀ g ∈ a, g.lo ≤ g.hi) → 1 ≤ cntN a
 | [], _ => by simp [cntN]
 | x :: a, h => by
  have h1 := h x (by simp)
  have h2 := qop a (fun g hg => h g (List.mem_cons_of_mem _ hg))
  have h3 : 1 ≤ widN x := by unfold widN; omega
  simp only [cntN]
  exact Nat.le_trans h2 (Nat.le_mul_of_pos_left _ h3)
theorem qvu {G : List El} (h : ∀ g ∈ G, g.lo ≤ g.hi) (i : Nat) : cntN (G.take i) ≤ cntN G := by
 have e := qi3 (G.take i) (G.drop i)
 rw [List.take_append_drop] at e
 have := qop (G.drop i) (fun g hg => h g (List.mem_of_mem_drop hg))
 rw [e]
 exact Nat.le_mul_of_pos_right _ this
theorem qvv (l j : Nat) (c : List Nat) : extC l (j + 1) c = extC l j c ++ [c ++ [l + j]] := by simp [extC, List.range_succ]
theorem qvw {LL : List (List Nat)} {k l n : Nat} {c : List Nat} (h : LL[k]? = some c) : (LL.take (k + 1)).flatMap (extC l n) = (LL.take k).flatMap (extC l n) ++ extC l n c := by
 rw [List.take_add_one, h, List.flatMap_append]
 simp
def BestI (LL OL : List (List Nat)) (k : Nat) (b : Value) : Prop := (b = .int .i64 (-1) ∧ ∀ j, j < k → ∀ d, LL[j]? = some d → candN OL d = false) ∨ (∃ (i : Nat) (c : List Nat), i < k ∧ b = .int .i64 (i : Int) ∧ LL[i]? = some c ∧ candN OL c = true ∧ ∀ j, j < k → ∀ d, LL[j]? = some d → candN OL d = true → befN d c = false)
theorem BestI.nil (LL OL : List (List Nat)) : BestI LL OL 0 (.int .i64 (-1)) := .inl ⟨rfl, fun j h => absurd h (Nat.not_lt_zero _)⟩
theorem BestI.skip {LL OL : List (List Nat)} {k : Nat} {b : Value} {c : List Nat} (h : BestI LL OL k b) (hk : LL[k]? = some c) (hc : candN OL c = false) : BestI LL OL (k + 1) b := by
 rcases h with ⟨rfl, h⟩ | ⟨i, a, h1, rfl, h2, h3, h4⟩
 ·refine .inl ⟨rfl, fun j hj d hd => ?_⟩
  rcases Nat.lt_or_ge j k with h5 | h5
  ·exact h j h5 d hd
  ·obtain rfl : j = k := by omega
   rw [hk] at hd; injection hd with hd; subst hd; exact hc
 ·refine .inr ⟨i, a, by omega, rfl, h2, h3, fun j hj d hd hcd => ?_⟩
  rcases Nat.lt_or_ge j k with h5 | h5
  ·exact h4 j h5 d hd hcd
  ·obtain rfl : j = k := by omega
   rw [hk] at hd; injection hd with hd; subst hd; rw [hc] at hcd; cases hcd
theorem BestI.first {LL OL : List (List Nat)} {k : Nat} {c : List Nat} (h : BestI LL OL k (.int .i64 (-1))) (hk : LL[k]? = some c) (hc : candN OL c = true) : BestI LL OL (k + 1) (.int .i64 (k : Int)) := by
 rcases h with ⟨_, h⟩ | ⟨i, a, h1, h2, _⟩
 ·refine .inr ⟨k, c, by omega, rfl, hk, hc, fun j hj d hd hcd => ?_⟩
  rcases Nat.lt_or_ge j k with h5 | h5
  ·rw [h j h5 d hd] at hcd; cases hcd
  ·obtain rfl : j = k := by omega
   rw [hk] at hd; injection hd with hd; subst hd; exact qh8 _
 ·injection h2 with _ h2
  omega
theorem BestI.better {LL OL : List (List Nat)} {n k i : Nat} {a c : List Nat} (hl : ∀ c ∈ LL, c.length = n) (h4 : ∀ j, j < k → ∀ d, LL[j]? = some d → candN OL d = true → befN d a = false) (ha : LL[i]? = some a) (hk : LL[k]? = some c) (hc : candN OL c = true) (hb : befN c a = true) : BestI LL OL (k + 1) (.int .i64 (k : Int)) := by
 refine .inr ⟨k, c, by omega, rfl, hk, hc, fun j hj d hd hcd => ?_⟩
 rcases Nat.lt_or_ge j k with h5 | h5
 ·cases h6 : befN d c with
  | false => rfl
  | true =>
   have h7 := qkp (by rw [hl d (List.mem_of_getElem? hd), hl c (List.mem_of_getElem? hk)]) (by rw [hl c (List.mem_of_getElem? hk), hl a (List.mem_of_getElem? ha)]) h6 hb
   rw [h4 j h5 d hd hcd] at h7
   cases h7
 ·obtain rfl : j = k := by omega
  rw [hk] at hd; injection hd with hd; subst hd; exact qh8 _
theorem BestI.worse {LL OL : List (List Nat)} {k i : Nat} {a c : List Nat} (hik : i < k) (h4 : ∀ j, j < k → ∀ d, LL[j]? = some d → candN OL d = true → befN d a = false) (ha : LL[i]? = some a) (hca : candN OL a = true) (hk : LL[k]? = some c) (hb : befN c a = false) : BestI LL OL (k + 1) (.int .i64 (i : Int)) := by
 refine .inr ⟨i, a, by omega, rfl, ha, hca, fun j hj d hd hcd => ?_⟩
 rcases Nat.lt_or_ge j k with h5 | h5
 ·exact h4 j h5 d hd hcd
 ·obtain rfl : j = k := by omega
  rw [hk] at hd; injection hd with hd; subst hd; exact hb
theorem BestI.done {LL OL : List (List Nat)} {b : Value} (h : BestI LL OL LL.length b) (hs : Srt LL OL) (hnd : LL.Nodup) (hlt : OL.length < LL.length) : ∃ (i : Nat) (c : List Nat), i < LL.length ∧ b = .int .i64 (i : Int) ∧ LL[i]? = some c ∧ candN OL c = true ∧ ∀ d ∈ LL, candN OL d = true → befN d c = false := by
 rcases h with ⟨_, h⟩ | ⟨i, c, h1, rfl, h2, h3, h4⟩
 ·obtain ⟨c, hc, h2⟩ := hs.some hnd hlt
  obtain ⟨j, hj, rfl⟩ := List.mem_iff_getElem.1 hc
  rw [h j hj _ (gEe hj)] at h2
  cases h2
 ·refine ⟨i, c, h1, rfl, h2, h3, fun d hd hcd => ?_⟩
  obtain ⟨j, hj, rfl⟩ := List.mem_iff_getElem.1 hd
  exact h4 j hj _ (gEe hj) hcd
def lenV : Value → Nat
 | .slice _ n _ => n
 | _ => 0
def ChsOf (p : List El) (OL : List (List Nat)) : Prop := (∀ c, c ∈ OL ↔ okCh (gapsN p) c) ∧ OL.length ≤ 64 ∧ OL.Nodup
theorem qoq {p : List El} {OL : List (List Nat)} (h : ChsOf p OL) (hg : gapsN p = []) : OL = [[]] := by
 have h1 : ∀ c, c ∈ OL ↔ c = [] := fun c => by rw [h.1 c, hg]; rfl
 match OL, h1, h.2.2 with
 | [], h1, _ => exact absurd ((h1 []).2 rfl) (by simp)
 | [c], h1, _ => rw [(h1 c).1 (by simp)]
 | c :: d :: l, h1, hn =>
  have e1 := (h1 c).1 (by simp)
  have e2 := (h1 d).1 (by simp)
  subst e1 e2
  simp at hn
def ChoR (w : World) (p : List El) (e : Ending) (w' : World) : Prop := ∃ u OL, e = .returned u ∧ RdLs EN w' (fun k => w.heap.size ≤ k) u OL ∧ ChsOf p OL ∧ Off Nob w w'
theorem qmd (p : List El) (hn : p.length ≤ 60) (hok : PatOk p) (hcn : cntN (gapsN p) ≤ 64) (w : World) (v : Value) (hv : RdL w (fun _ => True) 7 elV v p) : Calls Tryz.prog 114 #[v] w (ChoR w p) := by
 have HGP := hID (fun (V : World) (oV : Off Nob w V) => qkm p hn V v (RdL.keep hv oV (fun _ _ h => h)))
 have hgl := qdl p
 have HGR := hID (qd0 hok)
 have HCN := hID hcn
 obtain ⟨A, c, rfl⟩ := hv.form
 obtain ⟨n0, hnn⟩ : ∃ n, p.length = n := ⟨_, rfl⟩
 rw [hnn] at hn hgl HGP ⊢
 have hgl60 : (gapsN p).length ≤ 60 := by omega
 obtain ⟨G, hG⟩ : ∃ G, gapsN p = G := ⟨_, rfl⟩
 rw [hG] at HGP HGR HCN hgl60
 have HGG := hID hG
 obtain ⟨n, hnG⟩ : ∃ n, G.length = n := ⟨_, rfl⟩
 rw [hnG] at hgl60
 have HL := hID hgl60
 have HN := hID hnG
 clear hv hok hcn hnn hn hgl hG hgl60 hnG
 obtain ⟨i1, hi1, z1, s1, b1⟩ := info_parts Tryz.infoIL
 go_enter Tryz.func114, Tryz.ntmps114
 go_wp2_with fail
 have X1 : Hid (Off Nob w ((w.alloc (.cells #[] 3)).alloc (.cells #[.slice (some ⟨w.heap.size, 0, none⟩) 0 0] 22))) := hID (oAl (oAl oRf _) _)
 have A1 : Hid (RdLs EN ((w.alloc (.cells #[] 3)).alloc (.cells #[.slice (some ⟨w.heap.size, 0, none⟩) 0 0] 22)) (fun k => w.heap.size ≤ k) (.slice (some ⟨w.heap.size + 1, 0, none⟩) 1 1) [[]]) := hID (by
  refine ⟨[.slice (some ⟨w.heap.size, 0, none⟩) 0 0], rfl, ⟨_, _, rfl, by decide, rfl, fun _ => ⟨w.heap.size + 1, 0, rfl, by omega, by simp, fun j y hy => ?_⟩⟩, fun i u b hu hb => ?_⟩
  ·rw [Nat.zero_add, (qbn _ _ _ _).cell]
   simpa using hy
  ·cases i with
   | zero =>
    simp at hu hb
    subst hu hb
    exact ⟨_, _, rfl, by decide, rfl, fun h => absurd h (by decide)⟩
   | succ i => simp at hu)
 revert X1 A1
 generalize ((w.alloc (.cells #[] 3)).alloc (.cells #[.slice (some ⟨w.heap.size, 0, none⟩) 0 0] 22)) = w1
 intro X1 A1
 go_wp2_with fail
 refine (HGP.out w1 X1.out).mono ?_
 rintro e wg ⟨u, rfl, hu, o2⟩
 have X2 := hID (X1.out.also o2)
 have A2 := hID ((qak lasts_EN).keep A1.out o2 (fun _ _ h => h))
 obtain ⟨AG, cg, rfl⟩ := hu.form
 have HU := hID hu
 rw [HN.out] at HU ⊢
 clear o2 hu X1 A1
 go_wp2_with fail
 go_loopw [3, 5] (fun x q wr => ∃ (i : Nat) (LL : List (List Nat)), i ≤ n ∧ q = .int .i64 (i : Int) ∧ RdLs EN wr (fun k => w.heap.size ≤ k) x LL ∧ AllCh (G.take i) LL ∧ Off Nob wg wr) (fun _ q _ => n - (intOf q).toNat)
 case atStart => exact ⟨0, [[]], Nat.zero_le _, rfl, A2.out, AllCh.nil, Off.refl _ _⟩
 case round =>
  obtain ⟨i, LL, hi, rfl, hall, hac, ho⟩ := hrel
  obtain ⟨wa, rfl⟩ : ∃ z, z = wr := ⟨wr, rfl⟩
  have HO := hID ho
  have HALL := hID hall
  have HAC := hID hac
  have hm64 : LL.length ≤ 64 := by
   rw [hac.len]
   exact Nat.le_trans (qvu (fun g hg => (HGR.out g hg).2.1) i) HCN.out
  obtain ⟨AA, ca, rfl⟩ := hall.form
  clear ho hall hac A2
  obtain ⟨m, hm⟩ : ∃ m, LL.length = m := ⟨_, rfl⟩
  rw [hm] at hm64 HALL ⊢
  have HM := hID hm
  have HM64 := hID hm64
  clear hm
  by_cases hin : i < n
  ·have d1 : decide ((i : Int) < (n : Int)) = true := dcT
   have d1n : decide (i < n) = true := dT hin
   have HIN := hID hin
   have hi60 : i < 60 := by have := HL.out; omega
   obtain ⟨x, hx⟩ : ∃ x, G[i]? = some x := ⟨_, gEe (by rw [HN.out]; exact hin)⟩
   obtain ⟨r1, r2, r3⟩ := HGR.out x (List.mem_of_getElem? hx)
   obtain ⟨l, hl⟩ : ∃ l : Nat, x.lo = (l : Int) := ⟨x.lo.toNat, by omega⟩
   obtain ⟨h, hh⟩ : ∃ h : Nat, x.hi = (h : Int) := ⟨x.hi.toNat, by omega⟩
   have HCC : Hid (∃ b o c, Value.slice AG n cg = .slice (some ⟨b, o, none⟩) n c ∧ ∀ V', Off Nob wg V' → V'.cell? ⟨b, o + i * 7 + 5, none⟩ = some (.int .i64 (l : Int)) ∧ V'.cell? ⟨b, o + i * 7 + 6, none⟩ = some (.int .i64 (h : Int))) := hID (by
    have HU' := HU.out
    rw [← HN.out] at HU' ⊢
    obtain ⟨b, o, c, he, -, -, hc⟩ := HU'.at_ qcq hx
    refine ⟨b, o, c, he, fun V' oV => ?_⟩
    obtain ⟨b2, o2, c2, he2, -, -, hc2⟩ := (HU'.keep oV (fun _ _ h => h)).at_ qcq hx
    rw [he] at he2
    injection he2 with he2
    injection he2 with he2
    injection he2 with e1 e2 e3
    subst e1 e2
    refine ⟨?_, ?_⟩
    ·rw [← hl]; exact hc2 5 _ rfl
    ·rw [← hh]; exact hc2 6 _ rfl)
   obtain ⟨b, o, c3, he, hcc⟩ := HCC.out
   injection he with he1 he2 he3
   subst he1
   have HC2 := hID hcc
   obtain ⟨wd, hwd⟩ : ∃ wd, wd = h + 1 - l := ⟨_, rfl⟩
   rw [hl] at r1 r2
   rw [hh] at r2 r3
   have HWD : Hid (wd + l = h + 1 ∧ wd ≤ 17) := hID (by omega)
   have hh16 : h ≤ 16 := by omega
   have HH16 := hID hh16
   have HNX : Hid (AllCh (G.take (i + 1)) (LL.flatMap (extC l wd))) := hID (by
    rw [List.take_add_one, hx]
    exact HAC.out.step hl (by rw [hh]; omega))
   have HLC : Hid (∀ c ∈ LL, c.length ≤ 60) := hID (fun c hc => by
    have e := qe8 ((HAC.out.mem c).1 hc)
    rw [List.length_take] at e
    omega)
   clear hcc he2 he3 HCC hx hl hh r1 r2 r3 hwd
   go_wp2_with fail
   go_loopw [6, 7] (fun y q wq => ∃ k : Nat, k ≤ m ∧ q = .int .i64 (k : Int) ∧ GrowL EN wa 22 y ((LL.take k).flatMap (extC l wd)) wq) (fun _ q _ => m - (intOf q).toNat)
   case atStart => exact ⟨0, Nat.zero_le _, rfl, by simpa using GrowL.nil EN 22 (Off.refl Nob wa)⟩
   case round =>
    obtain ⟨k, hk, rfl, hg⟩ := hrel
    obtain ⟨wq, rfl⟩ : ∃ z, z = wr := ⟨wr, rfl⟩
    have HGR2 := hID hg
    clear hg
    by_cases hkm : k < m
    ·have d2 : decide ((k : Int) < (m : Int)) = true := dcT
     have d2n : decide (k < m) = true := dT hkm
     have HKM := hID hkm
     have hk64 : k < 64 := by have := HM64.out; omega
     obtain ⟨c, hc⟩ : ∃ c, LL[k]? = some c := ⟨_, gEe (by rw [HM.out]; exact hkm)⟩
     have HA := HALL.out
     rw [← HM.out] at HA
     obtain ⟨Ba, oa, cca, u, hea, hac, hue⟩ := HA.at_ lasts_EN hc
     injection hea with hea1 hea2 hea3
     subst hea1
     clear hea2 hea3
     have HAK := hID (fun V oV => hac V Nob oV (fun _ _ h => h))
     have HUE := hID (fun V oV => lasts_EN.keep (G := Nob) (W' := V) hue oV (fun _ _ h => h))
     have HFT := hID (qvw (l := l) (n := wd) hc)
     have HC60 := hID (HLC.out c (List.mem_of_getElem? hc))
     have HBL : Hid (((LL.take k).flatMap (extC l wd)).length ≤ 1088) := hID (by
      rw [qe9, List.length_take]
      have := HWD.out.2
      have : min k LL.length * wd ≤ 64 * 17 := Nat.mul_le_mul (by omega) (by omega)
      omega)
     obtain ⟨BB, hBB⟩ : ∃ BB, (LL.take k).flatMap (extC l wd) = BB := ⟨_, rfl⟩
     rw [hBB] at HGR2 HFT HBL
     have c5 := (HC2.out wq (HO.out.also HGR2.out.o)).1
     clear hac hue hc HA hBB
     go_wp2_with fail
     go_loopw [6, 8] (fun y q ws => ∃ t : Nat, l ≤ t ∧ t ≤ h + 1 ∧ q = .int .i64 (t : Int) ∧ GrowL EN wa 22 y (BB ++ extC l (t - l) c) ws) (fun _ q _ => h + 1 - (intOf q).toNat)
     case atStart => exact ⟨l, Nat.le_refl _, by have := HWD.out; omega, rfl, by simpa [extC] using HGR2.out⟩
     case round =>
      obtain ⟨t, hlt, hth, rfl, hg⟩ := hrel
      obtain ⟨ws, rfl⟩ : ∃ z, z = wr := ⟨wr, rfl⟩
      have HG3 := hID hg
      obtain ⟨AY, cy, rfl⟩ := hg.form
      have HLY := hID (show (BB ++ extC l (t - l) c).length ≤ 999999 by
       rw [List.length_append]
       have := HBL.out
       have := HWD.out
       simp only [extC, List.length_map, List.length_range]
       omega)
      have c6 := (HC2.out ws (HO.out.also hg.o)).2
      clear hg c5 HGR2
      obtain ⟨ly, hly⟩ : ∃ z, (BB ++ extC l (t - l) c).length = z := ⟨_, rfl⟩
      rw [hly] at HG3 ⊢
      clear hly
      by_cases hle : t ≤ h
      ·have d3 : decide ((t : Int) ≤ (h : Int)) = true := dcT
       have d3n : decide (t ≤ h) = true := dT hle
       have HTH := hID (And.intro hlt hle)
       have ht16 : t ≤ 16 := by omega
       obtain ⟨v1, w1, A2, n2, k2, w2, x', w3, e1, e2, e3, hg4⟩ := qx8 t HG3.out (HUE.out ws HG3.out.o) HC60.out HLY.out
       have E1 := hID e1
       have E2 := hID e2
       have E3 := hID e3
       have HG4 : Hid (GrowL EN wa 22 x' (BB ++ extC l (t + 1 - l) c) w3) := hID (by
        rw [show t + 1 - l = t - l + 1 by omega, qvv, show l + (t - l) = t by omega, ← List.append_assoc]
        exact hg4)
       have ck := HAK.out (ws.alloc (.cells #[] 3)) (HG3.out.o.also (oAl oRf _))
       clear e1 e2 e3 hg4 hlt hth hle HG3
       go_wp2_with (first | (at_builtin; refine qaz _ (by rfl) _ _ _ rfl rfl rfl E1.out ?_) | (at_builtin; refine qaz _ (by rfl) _ _ _ rfl rfl rfl E2.out ?_) | (at_builtin; refine qaz _ (by rfl) _ _ _ rfl rfl rfl E3.out ?_) | fail)
       go_roundw
       case rel => exact ⟨t + 1, by have := HTH.out; omega, by have := HTH.out; omega, by go_num, HG4.out⟩
       case measure => have := HTH.out; simp [intOf]; omega
      ·obtain rfl : t = h + 1 := by omega
       have d3 : decide (((h + 1 : Nat) : Int) ≤ (h : Int)) = false := dcF
       have d3n : decide (h + 1 ≤ h) = false := dcF
       have HG4 : Hid (GrowL EN wa 22 (.slice AY ly cy) ((LL.take (k + 1)).flatMap (extC l wd)) ws) := hID (by
        rw [HFT.out]
        have e : wd = h + 1 - l := by have := HWD.out.1; omega
        rw [e]
        exact HG3.out)
       clear HG3
       go_wp2_with fail
       go_roundw
       case rel => exact ⟨k + 1, HKM.out, by go_num, HG4.out⟩
       case measure => have := HKM.out; simp [intOf]; omega
    ·obtain rfl : k = m := by omega
     have d2 : decide ((k : Int) < (k : Int)) = false := by simp
     have d2n : decide (k < k) = false := by simp
     have HG4 : Hid (RdLs EN wq (fun j => w.heap.size ≤ j) u6 (LL.flatMap (extC l wd))) := hID (by
      have h := HGR2.out.rd lasts_EN
      rw [List.take_of_length_le (by rw [HM.out]; exact Nat.le_refl _)] at h
      exact (qak lasts_EN).mono h (fun j hj => Nat.le_trans (X2.out.also HO.out).size hj))
     have OQ := hID (HO.out.also HGR2.out.o)
     clear HGR2
     go_wp2_with fail
     go_roundw
     case rel => exact ⟨i + 1, _, HIN.out, by go_num, HG4.out, HNX.out, OQ.out⟩
     case measure => have := HIN.out; simp [intOf]; omega
  ·obtain rfl : i = n := by omega
   have d1 : decide ((i : Int) < (i : Int)) = false := by simp
   have d1n : decide (i < i) = false := by simp
   have e : G.take i = G := List.take_of_length_le (by rw [HN.out]; exact Nat.le_refl _)
   rw [e] at HAC
   have XR := hID (X2.out.also HO.out)
   have HCL : Hid (∀ c ∈ LL, c.length = i) := hID (fun c hc => by rw [qe8 ((HAC.out.mem c).1 hc), HN.out])
   have HCB : Hid (∀ c ∈ LL, ∀ y ∈ c, y ≤ 4096) := hID (fun c hc y hy => by
    have := qgf (b := 16) (fun g hg => (HGR.out g hg).2.2) ((HAC.out.mem c).1 hc) y hy
    omega)
   clear e hin
   go_wp2_with fail
   go_loopw [9] (fun x wo => ∃ OL : List (List Nat), GrowL EN w 22 x OL wo ∧ RdLs EN wo (fun k => w.heap.size ≤ k ∧ x.ownBlock ≠ some k) (.slice AA m ca) LL ∧ Srt LL OL) (fun x _ => m - lenV x)
   case atStart => exact ⟨[], GrowL.nil EN 22 XR.out, (qak lasts_EN).mono HALL.out (fun k hk => ⟨hk, by simp [Value.ownBlock]⟩), Srt.nil LL⟩
   case round =>
    obtain ⟨OL, hgo, hall, hs⟩ := hrel
    obtain ⟨wo, rfl⟩ : ∃ z, z = wr := ⟨wr, rfl⟩
    have HGO := hID hgo
    have HSR := hID hs
    obtain ⟨AO, co, rfl⟩ := hgo.form
    clear HALL
    have HALL := hID hall
    have hol : OL.length ≤ 64 := by
     have := qg1 hs.nodup hs.sub
     rw [HM.out] at this
     have := HM64.out
     omega
    clear hgo hall hs HO XR
    obtain ⟨q, hq⟩ : ∃ q, OL.length = q := ⟨_, rfl⟩
    rw [hq] at hol HGO HALL ⊢
    have HQ := hID hq
    clear hq
    by_cases hqm : q < m
    ·have d1 : decide ((q : Int) < (m : Int)) = true := dcT
     have d1n : decide (q < m) = true := dT hqm
     have HQM := hID hqm
     clear hqm
     go_wp2_with fail
     go_loopw [10, 11] (fun bv kq ws => ∃ k : Nat, k ≤ m ∧ kq = .int .i64 (k : Int) ∧ Off Nob wo ws ∧ BestI LL OL k bv) (fun _ kq _ => m - (intOf kq).toNat)
     case atStart => exact ⟨0, Nat.zero_le _, rfl, Off.refl _ _, BestI.nil _ _⟩
     case round =>
      obtain ⟨k, hk, rfl, ho, hb⟩ := hrel
      obtain ⟨ws, rfl⟩ : ∃ z, z = wr := ⟨wr, rfl⟩
      have HS := hID ho
      have HB0 := hID hb
      clear ho hb
      by_cases hkm : k < m
      ·have d2 : decide ((k : Int) < (m : Int)) = true := dcT
       have d2n : decide (k < m) = true := dT hkm
       have HKM := hID hkm
       have hk64 : k < 64 := by have := HM64.out; omega
       obtain ⟨c, hc⟩ : ∃ c, LL[k]? = some c := ⟨_, gEe (by rw [HM.out]; exact hkm)⟩
       have HCK := hID hc
       rw [← HM.out] at HALL
       obtain ⟨Ba, oa, cca, u2, hea, hac2, hue⟩ := HALL.out.at_ lasts_EN hc
       have HBE : Hid (∀ (a b : List Nat) (ua ub : Value), a ∈ LL → b ∈ LL → (∀ V, Off Nob wo V → EN V (fun _ => True) ua a) → (∀ V, Off Nob wo V → EN V (fun _ => True) ub b) → ∀ V, Off Nob wo V → Calls Tryz.prog 121 #[ua, ub] V (RetV V (.bool (befN a b)))) := hID (fun a b ua ub ha hb hua hub V oV => qx7 a b (by rw [HCL.out a ha, HCL.out b hb]) (by rw [HCL.out a ha]; have := HL.out; omega) (HCB.out a ha) (HCB.out b hb) V ua ub (hua V oV) (hub V oV))
       injection hea with hea1 hea2 hea3
       subst hea1
       clear hea2 hea3
       have HAK := hID (fun V oV => hac2 V Nob oV (fun _ _ h => h))
       have HU2 : Hid (∀ V, Off Nob wo V → EN V (fun _ => True) u2 c) := hID (fun V oV => lasts_EN.mono (lasts_EN.keep (G := Nob) hue oV (fun _ _ h => h)) (fun _ _ => trivial))
       rw [HM.out] at HALL
       clear hac2 hue hc
       by_cases hq0 : q = 0
       ·have dq : decide ((0 : Int) < (q : Int)) = false := dcF
        have dqn : decide (0 < q) = false := dcF
        have HCA : Hid (candN OL c = true) := hID (by
         have := HQ.out
         rw [List.eq_nil_of_length_eq_zero (l := OL) (by omega)]
         rfl)
        clear hq0
        go_wp2_with fail
        go_quiet (fail)
        have HS2 := hID (HS.out.drewN nq)
        revert HS2
        generalize ws.drewN nq = wt
        intro HS2
        rcases HB0.out with ⟨hbe, -⟩ | ⟨i, ci, hik, hbe, hci, hca, h4⟩
        ·subst hbe
         have HB1 := hID HB0.out
         go_wp2_with fail
         go_quiet (fail)
         have HN := hID (HS2.out.drewN nq)
         revert HN
         generalize wt.drewN nq = wn
         intro HN
         go_wp2_with fail
         go_roundw
         case rel => exact ⟨k + 1, HKM.out, by go_num, HN.out, HB1.out.first HCK.out HCA.out⟩
         case measure => have := HKM.out; simp [intOf]; omega
        ·subst hbe
         obtain ⟨Bb, ob, cb, u3, hea, hac3, hue3⟩ := HALL.out.at_ lasts_EN hci
         injection hea with hea hea4 hea5
         clear hea4 hea5
         injection hea with hea
         injection hea with hea1 hea2
         subst hea1 hea2
         have HAB := hID (fun V oV => hac3 V Nob oV (fun _ _ h => h))
         have HU3 : Hid (∀ V, Off Nob wo V → EN V (fun _ => True) u3 ci) := hID (fun V oV => lasts_EN.mono (lasts_EN.keep (G := Nob) hue3 oV (fun _ _ h => h)) (fun _ _ => trivial))
         clear hac3 hue3
         have hi64 : i < 64 := by have := HM64.out; have := HKM.out; omega
         have him : i < m := by have := HKM.out; omega
         have HC22 : Hid (∀ V', Off Nob wt V' → (fun Wq => Wq.cell? ⟨Ba, oa + k, none⟩ = some u2 ∧ Wq.cell? ⟨Ba, oa + i, none⟩ = some u3) V') := hID (fun V' oV => ⟨HAK.out V' (HS2.out.also oV), HAB.out V' (HS2.out.also oV)⟩)
         have HBF := hID (fun (V : World) (oV : Off Nob wt V) => HBE.out c ci u2 u3 (List.mem_of_getElem? HCK.out) (List.mem_of_getElem? hci) HU2.out HU3.out V (HS2.out.also oV))
         have di : decide ((i : Int) < 0) = false := dcF
         have din : decide (i < 0) = false := dcF
         cases hbf : befN c ci
         ·have HBV := hID hbf
          clear hbf
          go_wp2_with fail
          have OA := hID (Off.drew (Off.refl Nob wt))
          refine wp_region_held_drew (S := fun Wq => Wq.cell? ⟨Ba, oa + k, none⟩ = some u2 ∧ Wq.cell? ⟨Ba, oa + i, none⟩ = some u3) (by kernel_rfl) (HC22.out _ OA.out) (fun hHeld => ?_)
          revert hHeld OA
          generalize wt.drew = va
          intro OA hHeld
          refine tkH 0 ?_
          refine tkH 1 ?_
          refine tkH 2 ?_
          refine tkH 3 ?_
          refine tkH 4 ?_
          refine tkH 5 ?_
          refine tkH 6 ?_
          refine tkH 7 ?_
          refine tkH 8 ?_
          refine tkH 9 ?_
          refine tkH 10 ?_
          refine wpAnyH_ready (rs := [11]) (by kernel_rfl) (by simp) ?_
          refine AllReadyH.cons rfl (fun K hK => ?s1011) ?m1011
          case s1011 =>
           go_simp
           refine (HBF.out va OA.out).mono ?_
           rintro e vb ⟨rfl, o1⟩
           have OB := hID (OA.out.also o1)
           have T1 := hID (HC22.out _ OB.out)
           clear o1
           rw [HBV.out]
           go_simp
           refine hK.out _ _ ?_ (fun hHeld => ?_)
           ·first | exact T1.out | go_keep
           clear hK K
           try simp only [Act.put, qL]
           refine tkH 12 ?_
           refine wpAnyH_done (by kernel_rfl) ?_ _
           clear T1 OA hHeld HBF HC22
           go_wp2_with fail
           go_roundw
           case rel => exact ⟨k + 1, HKM.out, by go_num, HS2.out.also OB.out, BestI.worse hik h4 hci hca HCK.out HBV.out⟩
           case measure => have := HKM.out; simp [intOf]; omega
          exact AllReadyH.nil
         ·have HBV := hID hbf
          clear hbf
          go_wp2_with fail
          have OA := hID (Off.drew (Off.refl Nob wt))
          refine wp_region_held_drew (S := fun Wq => Wq.cell? ⟨Ba, oa + k, none⟩ = some u2 ∧ Wq.cell? ⟨Ba, oa + i, none⟩ = some u3) (by kernel_rfl) (HC22.out _ OA.out) (fun hHeld => ?_)
          revert hHeld OA
          generalize wt.drew = va
          intro OA hHeld
          refine tkH 0 ?_
          refine tkH 1 ?_
          refine tkH 2 ?_
          refine tkH 3 ?_
          refine tkH 4 ?_
          refine tkH 5 ?_
          refine tkH 6 ?_
          refine tkH 7 ?_
          refine tkH 8 ?_
          refine tkH 9 ?_
          refine tkH 10 ?_
          refine wpAnyH_ready (rs := [11]) (by kernel_rfl) (by simp) ?_
          refine AllReadyH.cons rfl (fun K hK => ?s1111) ?m1111
          case s1111 =>
           go_simp
           refine (HBF.out va OA.out).mono ?_
           rintro e vb ⟨rfl, o1⟩
           have OB := hID (OA.out.also o1)
           have T1 := hID (HC22.out _ OB.out)
           clear o1
           rw [HBV.out]
           go_simp
           refine hK.out _ _ ?_ (fun hHeld => ?_)
           ·first | exact T1.out | go_keep
           clear hK K
           try simp only [Act.put, qL]
           refine tkH 12 ?_
           refine wpAnyH_done (by kernel_rfl) ?_ _
           clear T1 OA hHeld HBF HC22
           go_wp2_with fail
           go_roundw
           case rel => exact ⟨k + 1, HKM.out, by go_num, HS2.out.also OB.out, BestI.better HCL.out h4 hci HCK.out HCA.out HBV.out⟩
           case measure => have := HKM.out; simp [intOf]; omega
          exact AllReadyH.nil
       ·obtain ⟨q1, hq1⟩ : ∃ q1, q1 + 1 = q := ⟨q - 1, by omega⟩
        have dq : decide ((0 : Int) < (q : Int)) = true := dcT
        have dqn : decide (0 < q) = true := dcT
        have E1 : IntKind.i64.wrap ((q : Int) - 1) = (q1 : Int) := by rw [IntKind.wrap_i64]; omega
        have hq1q : q1 < q := by omega
        have hq64 : q1 < 64 := by omega
        obtain ⟨a, ha⟩ : ∃ a, OL[q1]? = some a := ⟨_, gEe (by rw [HQ.out]; omega)⟩
        have HCE : Hid (candN OL c = befN a c) := hID (by
         unfold candN
         have e : OL.getLast? = some a := by rw [List.getLast?_eq_getElem?, HQ.out, ← hq1]; exact ha
         rw [e])
        obtain ⟨Bo, oo, cco, u1, heo, hac1, hue1⟩ := (HGO.out.rd lasts_EN).at_ lasts_EN ha
        injection heo with heo1 heo2 heo3
        subst heo1
        clear heo2 heo3
        have HOK := hID (fun V oV => hac1 V Nob oV (fun _ _ h => h))
        have HU1 : Hid (∀ V, Off Nob wo V → EN V (fun _ => True) u1 a) := hID (fun V oV => lasts_EN.mono (lasts_EN.keep (G := Nob) hue1 oV (fun _ _ h => h)) (fun _ _ => trivial))
        have HC21 : Hid (∀ V', Off Nob ws V' → (fun Wq => Wq.cell? ⟨Bo, oo + q1, none⟩ = some u1 ∧ Wq.cell? ⟨Ba, oa + k, none⟩ = some u2) V') := hID (fun V' oV => ⟨HOK.out V' (HS.out.also oV), HAK.out V' (HS.out.also oV)⟩)
        have HBF := hID (fun (V : World) (oV : Off Nob ws V) => HBE.out a c u1 u2 (HSR.out.sub a (List.mem_of_getElem? ha)) (List.mem_of_getElem? HCK.out) HU1.out HU2.out V (HS.out.also oV))
        clear hac1 hue1 ha hq0 hq1 HU1 HOK
        cases hbf : befN a c
        ·have HBV := hID hbf
         have HCA : Hid (candN OL c = false) := hID (HCE.out.trans hbf)
         clear hbf HCE
         go_wp2_with fail
         have OA := hID (Off.drew (Off.refl Nob ws))
         refine wp_region_held_drew (S := fun Wq => Wq.cell? ⟨Bo, oo + q1, none⟩ = some u1 ∧ Wq.cell? ⟨Ba, oa + k, none⟩ = some u2) (by kernel_rfl) (HC21.out _ OA.out) (fun hHeld => ?_)
         revert hHeld OA
         generalize ws.drew = va
         intro OA hHeld
         refine tkH 0 ?_
         refine tkH 1 ?_
         refine tkH 2 ?_
         refine tkH 3 ?_
         refine tkH 4 ?_
         refine tkH 5 ?_
         refine tkH 6 ?_
         refine tkH 7 ?_
         refine tkH 8 ?_
         refine tkH 9 ?_
         refine tkH 10 ?_
         refine tkH 11 ?_
         refine tkH 12 ?_
         refine tkH 13 ?_
         refine wpAnyH_ready (rs := [14]) (by kernel_rfl) (by simp) ?_
         refine AllReadyH.cons rfl (fun K hK => ?s2014) ?m2014
         case s2014 =>
          go_simp
          refine (HBF.out va OA.out).mono ?_
          rintro e vb ⟨rfl, o1⟩
          have OB := hID (OA.out.also o1)
          have T1 := hID (HC21.out _ OB.out)
          clear o1
          rw [HBV.out]
          go_simp
          refine hK.out _ _ ?_ (fun hHeld => ?_)
          ·first | exact T1.out | go_keep
          clear hK K
          try simp only [Act.put, qL]
          refine tkH 15 ?_
          refine tkH 16 ?_
          refine wpAnyH_done (by kernel_rfl) ?_ _
          clear T1 OA hHeld HBF HC21
          go_wp2_with fail
          go_roundw
          case rel => exact ⟨k + 1, HKM.out, by go_num, HS.out.also OB.out, HB0.out.skip HCK.out HCA.out⟩
          case measure => have := HKM.out; simp [intOf]; omega
         exact AllReadyH.nil
        ·have HBV := hID hbf
         have HCA : Hid (candN OL c = true) := hID (HCE.out.trans hbf)
         clear hbf HCE
         go_wp2_with fail
         have OA := hID (Off.drew (Off.refl Nob ws))
         refine wp_region_held_drew (S := fun Wq => Wq.cell? ⟨Bo, oo + q1, none⟩ = some u1 ∧ Wq.cell? ⟨Ba, oa + k, none⟩ = some u2) (by kernel_rfl) (HC21.out _ OA.out) (fun hHeld => ?_)
         revert hHeld OA
         generalize ws.drew = va
         intro OA hHeld
         refine tkH 0 ?_
         refine tkH 1 ?_
         refine tkH 2 ?_
         refine tkH 3 ?_
         refine tkH 4 ?_
         refine tkH 5 ?_
         refine tkH 6 ?_
         refine tkH 7 ?_
         refine tkH 8 ?_
         refine tkH 9 ?_
         refine tkH 10 ?_
         refine tkH 11 ?_
         refine tkH 12 ?_
         refine tkH 13 ?_
         refine wpAnyH_ready (rs := [14]) (by kernel_rfl) (by simp) ?_
         refine AllReadyH.cons rfl (fun K hK => ?s2514) ?m2514
         case s2514 =>
          go_simp
          refine (HBF.out va OA.out).mono ?_
          rintro e vb ⟨rfl, o1⟩
          have OB := hID (OA.out.also o1)
          have T1 := hID (HC21.out _ OB.out)
          clear o1
          rw [HBV.out]
          go_simp
          refine hK.out _ _ ?_ (fun hHeld => ?_)
          ·first | exact T1.out | go_keep
          clear hK K
          try simp only [Act.put, qL]
          refine tkH 15 ?_
          refine tkH 16 ?_
          refine wpAnyH_done (by kernel_rfl) ?_ _
          clear T1 OA hHeld HBF HC21 HBV
          have HS2 := hID (HS.out.also OB.out)
          rcases HB0.out with ⟨hbe, -⟩ | ⟨i, ci, hik, hbe, hci, hca, h4⟩
          ·subst hbe
           have HB1 := hID HB0.out
           go_wp2_with fail
           go_quiet (fail)
           have HN := hID (HS2.out.drewN nq)
           revert HN
           generalize vb.drewN nq = wn
           intro HN
           go_wp2_with fail
           go_roundw
           case rel => exact ⟨k + 1, HKM.out, by go_num, HN.out, HB1.out.first HCK.out HCA.out⟩
           case measure => have := HKM.out; simp [intOf]; omega
          ·subst hbe
           obtain ⟨Bb, ob, cb, u3, hea, hac3, hue3⟩ := HALL.out.at_ lasts_EN hci
           injection hea with hea hea4 hea5
           clear hea4 hea5
           injection hea with hea
           injection hea with hea1 hea2
           subst hea1 hea2
           have HAB := hID (fun V oV => hac3 V Nob oV (fun _ _ h => h))
           have HU3 : Hid (∀ V, Off Nob wo V → EN V (fun _ => True) u3 ci) := hID (fun V oV => lasts_EN.mono (lasts_EN.keep (G := Nob) hue3 oV (fun _ _ h => h)) (fun _ _ => trivial))
           clear hac3 hue3
           have hi64 : i < 64 := by have := HM64.out; have := HKM.out; omega
           have him : i < m := by have := HKM.out; omega
           have HC22 : Hid (∀ V', Off Nob vb V' → (fun Wq => Wq.cell? ⟨Ba, oa + k, none⟩ = some u2 ∧ Wq.cell? ⟨Ba, oa + i, none⟩ = some u3) V') := hID (fun V' oV => ⟨HAK.out V' (HS2.out.also oV), HAB.out V' (HS2.out.also oV)⟩)
           have HBF := hID (fun (V : World) (oV : Off Nob vb V) => HBE.out c ci u2 u3 (List.mem_of_getElem? HCK.out) (List.mem_of_getElem? hci) HU2.out HU3.out V (HS2.out.also oV))
           have di : decide ((i : Int) < 0) = false := dcF
           have din : decide (i < 0) = false := dcF
           cases hbf : befN c ci
           ·have HBV := hID hbf
            clear hbf
            go_wp2_with fail
            have OA := hID (Off.drew (Off.refl Nob vb))
            refine wp_region_held_drew (S := fun Wq => Wq.cell? ⟨Ba, oa + k, none⟩ = some u2 ∧ Wq.cell? ⟨Ba, oa + i, none⟩ = some u3) (by kernel_rfl) (HC22.out _ OA.out) (fun hHeld => ?_)
            revert hHeld OA
            generalize vb.drew = va
            intro OA hHeld
            refine tkH 0 ?_
            refine tkH 1 ?_
            refine tkH 2 ?_
            refine tkH 3 ?_
            refine tkH 4 ?_
            refine tkH 5 ?_
            refine tkH 6 ?_
            refine tkH 7 ?_
            refine tkH 8 ?_
            refine tkH 9 ?_
            refine tkH 10 ?_
            refine wpAnyH_ready (rs := [11]) (by kernel_rfl) (by simp) ?_
            refine AllReadyH.cons rfl (fun K hK => ?s3011) ?m3011
            case s3011 =>
             go_simp
             refine (HBF.out va OA.out).mono ?_
             rintro e vb ⟨rfl, o1⟩
             have OB := hID (OA.out.also o1)
             have T1 := hID (HC22.out _ OB.out)
             clear o1
             rw [HBV.out]
             go_simp
             refine hK.out _ _ ?_ (fun hHeld => ?_)
             ·first | exact T1.out | go_keep
             clear hK K
             try simp only [Act.put, qL]
             refine tkH 12 ?_
             refine wpAnyH_done (by kernel_rfl) ?_ _
             clear T1 OA hHeld HBF HC22
             go_wp2_with fail
             go_roundw
             case rel => exact ⟨k + 1, HKM.out, by go_num, HS2.out.also OB.out, BestI.worse hik h4 hci hca HCK.out HBV.out⟩
             case measure => have := HKM.out; simp [intOf]; omega
            exact AllReadyH.nil
           ·have HBV := hID hbf
            clear hbf
            go_wp2_with fail
            have OA := hID (Off.drew (Off.refl Nob vb))
            refine wp_region_held_drew (S := fun Wq => Wq.cell? ⟨Ba, oa + k, none⟩ = some u2 ∧ Wq.cell? ⟨Ba, oa + i, none⟩ = some u3) (by kernel_rfl) (HC22.out _ OA.out) (fun hHeld => ?_)
            revert hHeld OA
            generalize vb.drew = va
            intro OA hHeld
            refine tkH 0 ?_
            refine tkH 1 ?_
            refine tkH 2 ?_
            refine tkH 3 ?_
            refine tkH 4 ?_
            refine tkH 5 ?_
            refine tkH 6 ?_
            refine tkH 7 ?_
            refine tkH 8 ?_
            refine tkH 9 ?_
            refine tkH 10 ?_
            refine wpAnyH_ready (rs := [11]) (by kernel_rfl) (by simp) ?_
            refine AllReadyH.cons rfl (fun K hK => ?s3111) ?m3111
            case s3111 =>
             go_simp
             refine (HBF.out va OA.out).mono ?_
             rintro e vb ⟨rfl, o1⟩
             have OB := hID (OA.out.also o1)
             have T1 := hID (HC22.out _ OB.out)
             clear o1
             rw [HBV.out]
             go_simp
             refine hK.out _ _ ?_ (fun hHeld => ?_)
             ·first | exact T1.out | go_keep
             clear hK K
             try simp only [Act.put, qL]
             refine tkH 12 ?_
             refine wpAnyH_done (by kernel_rfl) ?_ _
             clear T1 OA hHeld HBF HC22
             go_wp2_with fail
             go_roundw
             case rel => exact ⟨k + 1, HKM.out, by go_num, HS2.out.also OB.out, BestI.better HCL.out h4 hci HCK.out HCA.out HBV.out⟩
             case measure => have := HKM.out; simp [intOf]; omega
            exact AllReadyH.nil
         exact AllReadyH.nil
      ·obtain rfl : k = m := by omega
       have d2 : decide ((k : Int) < (k : Int)) = false := by simp
       have d2n : decide (k < k) = false := by simp
       obtain ⟨bi, cb, hbi, hbe, hbc, hbd, hbm⟩ := (show BestI LL OL LL.length _ from by rw [HM.out]; exact HB0.out).done HSR.out HAC.out.nd (by rw [HQ.out, HM.out]; exact HQM.out)
       subst hbe
       rw [HM.out] at hbi
       have hb64 : bi < 64 := by have := HM64.out; omega
       rw [← HM.out] at HALL
       obtain ⟨Ba, oa, cca, u2, hea, hac2, hue⟩ := HALL.out.at_ lasts_EN hbc
       injection hea with hea1 hea2 hea3
       subst hea1
       clear hea2 hea3
       rw [HM.out] at HALL
       have ck := hac2 ws Nob HS.out (fun _ _ h => h)
       obtain ⟨A5, c5, rfl, -⟩ := Rd.form hue
       obtain ⟨lb, hlb⟩ : ∃ z, cb.length = z := ⟨_, rfl⟩
       rw [hlb] at hue ck
       obtain ⟨x', w3, e1, hg4, hgr, hat⟩ := (HGO.out.go lasts_EN HS.out).push lasts_EN Tryz.underlying148 hi1 z1 s1 b1 (lasts_EN.keep (G := Nob) hue HS.out (fun _ _ h => h)) (by rw [HQ.out]; omega)
       obtain ⟨A6, c6, rfl⟩ := hg4.form
       have E1 := hID e1
       have HALL2 := hID ((qak lasts_EN).beside ((qak lasts_EN).keep HALL.out (HS.out.also (oAl (Off.refl Nob ws) (.cells #[.slice A5 lb c5] 22))) (fun _ _ h => h)) hgr hat)
       have HS4 := hID (HSR.out.step HCL.out (List.mem_of_getElem? hbc) hbd hbm)
       have HG4 := hID hg4
       have HLN : Hid ((OL ++ [cb]).length = q + 1) := hID (by rw [List.length_append, HQ.out]; rfl)
       clear e1 hg4 hgr hat hac2 hue hbc hbd hbm hlb HB0
       rw [HLN.out] at E1 HALL2 HG4
       go_wp2_with (first | (at_builtin; refine qaz _ (by rfl) _ _ _ rfl rfl rfl E1.out ?_) | fail)
       go_roundw
       case rel => exact ⟨OL ++ [cb], HG4.out, HALL2.out, HS4.out⟩
       case measure => have := HQM.out; simp [lenV]; omega
    ·have d1 : decide ((q : Int) < (m : Int)) = false := dcF
     have d1n : decide (q < m) = false := dF hqm
     have HR := hID (HGO.out.rd lasts_EN)
     have HCH : Hid (ChsOf p OL) := hID ⟨fun c => by
      rw [HGG.out]
      exact ⟨fun h => (HAC.out.mem c).1 (HSR.out.sub c h), fun h => HSR.out.all (by rw [HQ.out, HM.out]; omega) c ((HAC.out.mem c).2 h)⟩, by rw [HQ.out]; exact hol, HSR.out.nodup⟩
     clear hqm
     go_wp2_with fail
     go_ret
     exact ⟨_, OL, rfl, HR.out, HCH.out, HGO.out.o⟩
end
section
open Go.RowKit
def PosR (w : World) (p : List El) (e : Ending) (w' : World) : Prop := ∃ n x : Int, e = .returned (.tuple #[.int .i64 n, .int .i64 x]) ∧ (x = 0 → PatOk p ∧ cntN (gapsN p) ≤ 64) ∧ (PatOk p → gapsN p = [] → x = 0 ∧ n = (p.length : Int)) ∧ Off Nob w w'
theorem qi4 (p : List El) (hb : ∀ e ∈ p, ElB e) (hn : p.length ≤ 60) (w : World) (v : Value) (hv : RdL w (fun _ => True) 7 elV v p) : Calls Tryz.prog 88 #[v] w (PosR w p) := by
 have HCT := hID (qz7 p hb hn w v hv)
 have HGP := hID (fun (V : World) (oV : Off Nob w V) => qkm p hn V v (RdL.keep hv oV (fun _ _ h => h)))
 have HCH := hID (fun (V : World) (oV : Off Nob w V) (h1 : PatOk p) (h2 : cntN (gapsN p) ≤ 64) => qmd p hn h1 h2 V v (RdL.keep hv oV (fun _ _ h => h)))
 have HGL := hID (Nat.le_trans (qdl p) hn)
 obtain ⟨A, c, rfl⟩ := hv.form
 obtain ⟨n0, hnn⟩ : ∃ n, p.length = n := ⟨_, rfl⟩
 have HN0 := hID (And.intro hnn hn)
 rw [hnn] at HCT HGP HCH ⊢
 clear hv hb hnn hn
 go_enter Tryz.func88, Tryz.ntmps88
 go_wp2_with fail
 refine HCT.out.mono ?_
 rintro e w1 ⟨n1, x1, rfl, hx1, hf1, o1⟩
 have O1 := hID o1
 have HX1 := hID hx1
 have HF1 := hID hf1
 clear o1 hx1 hf1 HCT
 by_cases hx : x1 = 0
 ·have dx : (x1 != 0) = false := by simp [hx]
  have HPO := hID (HX1.out hx)
  clear hx HX1
  go_wp2_with fail
  refine (HGP.out w1 O1.out).mono ?_
  rintro e w2 ⟨u, rfl, hu, o2⟩
  have O2 := hID (O1.out.also o2)
  obtain ⟨AG, cg, rfl⟩ := hu.form
  obtain ⟨g, hg⟩ : ∃ g, (gapsN p).length = g := ⟨_, rfl⟩
  rw [hg]
  have HG := hID hg
  clear hu hg o2 dx
  go_wp2_with fail
  refine (HCH.out w2 O2.out HPO.out.1 HPO.out.2).mono ?_
  rintro e w3 ⟨u, OL, rfl, hol, hch, o3⟩
  have O3 := hID (O2.out.also o3)
  obtain ⟨AL, cl, rfl⟩ := hol.form
  have HOL := hID hol
  have HCC := hID hch
  obtain ⟨m, hm⟩ : ∃ m, OL.length = m := ⟨_, rfl⟩
  have HM := hID hm
  have hm64 : m ≤ 64 := by rw [← hm]; exact hch.2.1
  rw [hm] at HOL ⊢
  have HFC : Hid (gapsN p = [] → m = 1 ∧ g = 0 ∧ ∀ c ∈ OL, c = []) := hID (fun hf => by
   have e := qoq hch hf
   refine ⟨by rw [← hm, e]; rfl, by rw [← HG.out, hf]; rfl, fun c hc => ?_⟩
   rw [e] at hc
   exact List.mem_singleton.1 hc)
  clear hol hch o3 hm
  go_wp2_with fail
  go_loopw [7, 9] (fun z q wr => ∃ (i : Nat) (n : Int), i ≤ m ∧ q = .int .i64 (i : Int) ∧ z = .int .i64 n ∧ Off Nob w3 wr ∧ (gapsN p = [] → n = ((i * n0 : Nat) : Int))) (fun _ q _ => m - (intOf q).toNat)
  case atStart => exact ⟨0, 0, Nat.zero_le _, rfl, rfl, Off.refl _ _, fun _ => by simp⟩
  case round =>
   obtain ⟨i, n, hi, rfl, rfl, ho, hnv⟩ := hrel
   have HO := hID ho
   have HNV := hID hnv
   clear ho hnv
   by_cases him : i < m
   ·have d1 : decide ((i : Int) < (m : Int)) = true := dcT
    have d1n : decide (i < m) = true := dT him
    have HIM := hID him
    have hi64 : i < 64 := by omega
    obtain ⟨c, hc⟩ : ∃ c, OL[i]? = some c := ⟨_, gEe (by rw [HM.out]; exact him)⟩
    have hck := (HCC.out.1 c).1 (List.mem_of_getElem? hc)
    have hc60 : c.length ≤ 512 := by
     rw [qe8 hck]
     have := HGL.out
     omega
    have hc16 : ∀ y ∈ c, y ≤ 4096 := fun y hy => by
     have := qgf (b := 16) (fun g hg => (qd0 HPO.out.1 g hg).2.2) hck y hy
     omega
    rw [← HM.out] at HOL
    obtain ⟨b, o, cc, u, he, hac, hue⟩ := HOL.out.at_ lasts_EN hc
    injection he with he1 he2 he3
    subst he1
    clear he2 he3
    rw [HM.out] at HOL
    have ck := hac wr Nob HO.out (fun _ _ h => h)
    have HSM := hID (r_sum c hc60 hc16 wr u ((Rd.keep hue HO.out (fun _ _ h => h)).mono (fun _ _ => trivial)))
    obtain ⟨sm, hsm⟩ : ∃ s, c.sum = s := ⟨_, rfl⟩
    rw [hsm] at HSM
    have HSZ : Hid (gapsN p = [] → sm = 0) := hID (fun hf => by rw [← hsm, (HFC.out hf).2.2 c (List.mem_of_getElem? hc)]; rfl)
    clear hac hue hc hck hc60 hc16 hsm
    go_wp2_with fail
    refine HSM.out.mono ?_
    rintro e w5 ⟨rfl, o5⟩
    have O5 := hID (HO.out.also o5)
    clear o5 HSM ck
    go_wp2_with fail
    go_roundw
    case rel => exact ⟨i + 1, _, HIM.out, by go_num, rfl, O5.out, fun hf => by
     obtain ⟨e1, e2, -⟩ := HFC.out hf
     have e4 := HNV.out hf
     have e5 := HSZ.out hf
     have e7 := HN0.out
     obtain rfl : i = 0 := by have := HIM.out; omega
     (try unfold wrap64)
     omega⟩
    case measure => have := HIM.out; simp [intOf]; omega
   ·obtain rfl : i = m := by omega
    have d1 : decide ((i : Int) < (i : Int)) = false := by simp
    have d1n : decide (i < i) = false := by simp
    have HNM : Hid (gapsN p = [] → n = (p.length : Int) ∧ ¬ 256 < n) := hID (fun hf => by
     have e1 := (HFC.out hf).1
     have e4 := HNV.out hf
     have e7 := HN0.out
     subst e1
     omega)
    by_cases hz : 256 < n
    ·have dz : decide (256 < n) = true := dT hz
     have HZZ := hID hz
     clear hz
     go_wp2_with fail
     exact bodyPost_ret (v := .tuple #[.int .i64 0, .int .i64 3]) (by simp [results, Tryz.f88, go_sem]) rfl ⟨_, _, rfl, fun h => absurd h (by decide), fun _ hf => (by have h1 := HZZ.out; have h2 := (HNM.out hf).2; omega), O3.out.also HO.out⟩
    ·have dz : decide (256 < n) = false := dF hz
     clear hz
     go_wp2_with fail
     exact bodyPost_ret (v := .tuple #[.int .i64 n, .int .i64 0]) (by simp [results, Tryz.f88, go_sem]) rfl ⟨_, _, rfl, fun _ => HPO.out, fun _ hf => ⟨rfl, (HNM.out hf).1⟩, O3.out.also HO.out⟩
 ·have dx : (x1 != 0) = true := bne_iff_ne.2 hx
  have HXN := hID hx
  clear hx
  go_wp2_with fail
  exact bodyPost_ret (v := .tuple #[.int .i64 0, .int .i64 x1]) (by simp [results, Tryz.f88, go_sem]) rfl ⟨_, _, rfl, fun h => absurd h HXN.out, fun hp hf => absurd (HF1.out hp hf) HXN.out, O1.out⟩
theorem qor {β : Type} (E : World → (Nat → Prop) → Value → β → Prop) (w : World) (F : Nat → Prop) : RdLs E w F (.slice none 0 0) [] := ⟨[], rfl, ⟨none, 0, rfl, Nat.zero_le _, rfl, fun h => absurd h (Nat.not_lt_zero _)⟩, fun i u b h => by simp at h⟩
def ChcR (w : World) (p : List El) (e : Ending) (w' : World) : Prop := ∃ (u : Value) (x : Int) (OL : List (List Nat)), e = .returned (.tuple #[u, .int .i64 x]) ∧ RdLs EN w' (fun k => w.heap.size ≤ k) u OL ∧ (x = 0 → PatOk p ∧ ChsOf p OL) ∧ (PatOk p → gapsN p = [] → x = 0) ∧ Off Nob w w'
theorem qvx (p : List El) (hb : ∀ e ∈ p, ElB e) (hn : p.length ≤ 60) (w : World) (v : Value) (hv : RdL w (fun _ => True) 7 elV v p) : Calls Tryz.prog 89 #[v] w (ChcR w p) := by
 have HPS := hID (qi4 p hb hn w v hv)
 have HCH := hID (fun (V : World) (oV : Off Nob w V) (h1 : PatOk p) (h2 : cntN (gapsN p) ≤ 64) => qmd p hn h1 h2 V v (RdL.keep hv oV (fun _ _ h => h)))
 obtain ⟨A, c, rfl⟩ := hv.form
 clear hv hb
 go_enter Tryz.func89, Tryz.ntmps89
 go_wp2_with fail
 refine HPS.out.mono ?_
 rintro e w1 ⟨n1, x1, rfl, hx1, hf1, o1⟩
 have O1 := hID o1
 have HX1 := hID hx1
 have HF1 := hID hf1
 clear o1 hx1 hf1 HPS
 by_cases hx : x1 = 0
 ·have dx : (x1 != 0) = false := by simp [hx]
  have HPO := hID (HX1.out hx)
  clear hx HX1
  go_wp2_with fail
  refine (HCH.out w1 O1.out HPO.out.1 HPO.out.2).mono ?_
  rintro e w3 ⟨u, OL, rfl, hol, hch, o3⟩
  have O3 := hID (O1.out.also o3)
  have HOL := hID ((qak lasts_EN).mono hol (G := fun k => w.heap.size ≤ k) (fun k hk => Nat.le_trans O1.out.size hk))
  have HCC := hID hch
  clear hol hch o3
  go_wp2_with fail
  exact bodyPost_ret (v := .tuple #[u, .int .i64 0]) (by simp [results, Tryz.f89, go_sem]) rfl ⟨_, _, OL, rfl, HOL.out, fun _ => ⟨HPO.out.1, HCC.out⟩, fun _ _ => rfl, O3.out⟩
 ·have dx : (x1 != 0) = true := bne_iff_ne.2 hx
  have HXN := hID hx
  clear hx
  go_wp2_with fail
  exact bodyPost_ret (v := .tuple #[.slice none 0 0, .int .i64 x1]) (by simp [results, Tryz.f89, go_sem]) rfl ⟨_, _, [], rfl, qor _ _ _, fun h => absurd h HXN.out, fun hp hf => absurd (HF1.out hp hf).1 HXN.out, O1.out⟩
end
section
open Go.RowKit
theorem Tryz.infoCS : (Tryz.prog.info? 73).map (fun i => (i.zero, i.size, i.bytes)) = some (some (.agg #[.int .u64 0, .int .u64 0, .int .u64 0, .int .u64 0]), 4, 32) := by kernel_rfl
def encQ (a : Q4) : List Value := [.int .u64 (a.1 : Int), .int .u64 (a.2.1 : Int), .int .u64 (a.2.2.1 : Int), .int .u64 (a.2.2.2 : Int)]
theorem qx9 (a : Q4) : (encQ a).length = 4 := rfl
def EQ (w : World) (F : Nat → Prop) (v : Value) (L : List Q4) : Prop := RdL w F 4 encQ v L
theorem lasts_EQ : Lasts EQ := qma 4 encQ
theorem qg2 {t e : TypeId} {i : TypeInfo} {z : Value} {size bytes : Nat} (ht : Tryz.prog.underlying t = some (.slice e)) (h_h : Tryz.prog.info? e = some i) (z_h : i.zero = some z) (s_h : i.size = size) (b_h : i.bytes = bytes) (hzs : z.cells.size = size) (hsz : 0 < size) {w0 wr : World} {x : Value} {n : Nat} {xs : List Value} (h : OwnL w0 wr e size x n xs) (ys : List Value) (hy : ys.length = size) (h1 : ∀ y ∈ ys, y.oneCell' = true) (hn : n ≤ 999999) (hby : bytes ≤ 1000) :
  ∃ A c w', (Builtin.append_ #[t, t] t #[x, .slice (some ⟨wr.heap.size, 0, none⟩) 1 1]).run Tryz.prog (wr.alloc (.cells ys.toArray e)) = .ok (.slice A (n + 1) c) w' ∧ OwnL w0 w' e size (.slice A (n + 1) c) (n + 1) (xs ++ ys) := by
 have h2 : OwnL w0 (wr.alloc (.cells ys.toArray e)) e size x n xs := h.off (oAl oRf _)
 obtain ⟨x', w', r, own', g', -⟩ := qge ht h_h z_h s_h b_h hzs hsz _ w0.heap.size h2.1 (qoo wr ys e 1 size (by rw [hy, Nat.one_mul]) (by unfold maxLen; omega)) h1 (by omega) hby h2.2.size
 have h3 := h2.grown (Off.refl Nob _) own' g'
 obtain ⟨A, c, rfl⟩ := h3.form
 exact ⟨A, c, w', r, h3⟩
theorem qg3 : ∀ (a : List El) (e : El) (c : List Nat), lineN (a ++ [e]) c = lineN a c ++ (if e.gap then List.replicate (c.getD (gapsN a).length 0) allQ else [e.cls])
 | [], e, c => by
  cases hg : e.gap <;> cases c <;> simp [lineN, hg, gapsN]
 | x :: a, e, c => by
  cases hx : x.gap with
  | false =>
   have e1 : gapsN (x :: a) = gapsN a := by simp [gapsN, hx]
   have ih := qg3 a e c
   rw [e1, List.cons_append]
   simp only [lineN, hx, Bool.false_eq_true, if_false]
   rw [ih, List.cons_append]
  | true =>
   have e1 : gapsN (x :: a) = x :: gapsN a := by simp [gapsN, hx]
   have ih := qg3 a e c.tail
   rw [e1, List.cons_append, List.length_cons]
   simp only [lineN, hx, if_true]
   rw [ih, List.append_assoc]
   cases c <;> simp
theorem qdu {b : Nat} (hb : 1 ≤ b) : ∀ (a : List El) (c : List Nat), (∀ x ∈ c, x ≤ b) → (lineN a c).length ≤ a.length * b
 | [], c, _ => by simp [lineN]
 | e :: a, c, h => by
  have e1 : (a.length + 1) * b = a.length * b + b := Nat.succ_mul _ _
  rw [List.length_cons, e1]
  unfold lineN
  cases hg : e.gap with
  | false =>
   have := qdu hb a c h
   simp only [Bool.false_eq_true, if_false, List.length_cons]
   omega
  | true =>
   have h1 := qdu hb a c.tail (fun x hx => h x (List.mem_of_mem_tail hx))
   have h2 : c.headD 0 ≤ b := by
    cases c with
    | nil => simp
    | cons x c => exact h x (by simp)
   simp only [if_true, List.length_append, List.length_replicate]
   omega
theorem qq6 : ∀ {gs : List El} {c : List Nat} {i : Nat} {g : El}, okCh gs c → gs[i]? = some g → i < c.length ∧ g.lo ≤ (c.getD i 0 : Int) ∧ (c.getD i 0 : Int) ≤ g.hi
 | [], c, i, g, _, hi => by simp at hi
 | x :: gs, c, i, g, h, hi => by
  obtain ⟨n, c', rfl, h1, h2, h3⟩ := h
  cases i with
  | zero =>
   simp at hi
   subst hi
   exact ⟨by simp, by simpa using h1, by simpa using h2⟩
  | succ i =>
   have := qq6 h3 (show gs[i]? = some g by simpa using hi)
   simpa using this
theorem qvy {p : List El} {i : Nat} {x : El} (h : p[i]? = some x) (hg : x.gap = true) : (gapsN (p.take i)).length < (gapsN p).length := by
 have h1 : gapsN p = gapsN (p.take (i + 1)) ++ gapsN (p.drop (i + 1)) := by
  unfold gapsN
  rw [← List.filter_append, List.take_append_drop]
 rw [h1, qg0 h, if_pos hg, List.length_append, List.length_append, List.length_singleton]
 omega
theorem q1x (p : List El) (hb : ∀ e ∈ p, ElB e) (hn : p.length ≤ 60) (hok : PatOk p) (C : List Nat) (hc : okCh (gapsN p) C) (w : World) (v u : Value) (hv : RdL w (fun _ => True) 7 elV v p) (hu : EN w (fun _ => True) u C) : Calls Tryz.prog 90 #[v, u] w (fun e w' => ∃ x, e = .returned (.tuple #[x, .int .i64 0]) ∧ EQ w' (fun k => w.heap.size ≤ k) x (lineN p C) ∧ Off Nob w w') := by
 obtain ⟨i0, h0, z0, s0, b0⟩ := info_parts Tryz.infoCS
 have HCK := hID (r_ck p hb hn w v hv)
 have HGP := hID (fun (V : World) (oV : Off Nob w V) => qkm p hn V v (RdL.keep hv oV (fun _ _ h => h)))
 have HOK := hID hok
 have HC := hID hc
 have HV := hID hv
 have HU := hID (fun (V : World) (oV : Off Nob w V) => Rd.keepT hu oV)
 have HGL := hID (Nat.le_trans (qdl p) hn)
 have HC16 : Hid (∀ y ∈ C, y ≤ 16) := hID (fun y hy => qgf (b := 16) (fun g hg => (qd0 hok g hg).2.2) hc y hy)
 have HCL := hID (qe8 hc)
 obtain ⟨A, c, rfl⟩ := hv.form
 obtain ⟨AC, cC, rfl, -⟩ := Rd.form hu
 obtain ⟨n0, hnn⟩ : ∃ n, p.length = n := ⟨_, rfl⟩
 have HN0 := hID hnn
 rw [hnn] at hn HCK HGP HV ⊢
 obtain ⟨n, hng⟩ : ∃ n, (gapsN p).length = n := ⟨_, rfl⟩
 rw [hng] at HCL HGL
 rw [HCL.out] at HU ⊢
 have HNG := hID hng
 have hn60 := HGL.out
 clear hv hb hnn hu hok hc hng
 go_enter Tryz.func90, Tryz.ntmps90
 go_wp2_with fail
 refine HCK.out.mono ?_
 rintro e w1 ⟨i1, x1, rfl, hx1, o1⟩
 obtain rfl := hx1.2 HOK.out
 have O1 := hID o1
 clear o1 hx1 HCK
 go_wp2_with fail
 refine (HGP.out w1 O1.out).mono ?_
 rintro e w2 ⟨u, rfl, hu, o2⟩
 have O2 := hID (O1.out.also o2)
 obtain ⟨AG, cg, rfl⟩ := hu.form
 have HUG := hID hu
 rw [HNG.out] at HUG ⊢
 have dnn : ((n : Int) != (n : Int)) = false := by simp
 clear hu o2 HGP O1
 go_wp2_with fail
 go_loopw [7, 9] (fun x q wr => ∃ i : Nat, i ≤ n ∧ x = .int .i64 0 ∧ q = .int .i64 (i : Int) ∧ Off Nob w2 wr) (fun _ q _ => n - (intOf q).toNat)
 case atStart => exact ⟨0, Nat.zero_le _, rfl, rfl, Off.refl _ _⟩
 case round =>
  obtain ⟨i, hi, rfl, rfl, ho⟩ := hrel
  obtain ⟨wa, rfl⟩ : ∃ z, z = wr := ⟨wr, rfl⟩
  have HO := hID ho
  clear ho
  by_cases hin : i < n
  ·have d1 : decide ((i : Int) < (n : Int)) = true := dcT
   have d1n : decide (i < n) = true := dT hin
   have HIN := hID hin
   have hi60 : i < 60 := by omega
   obtain ⟨g, hg⟩ : ∃ g, (gapsN p)[i]? = some g := ⟨_, gEe (by rw [HNG.out]; exact hin)⟩
   obtain ⟨r1, r2, r3⟩ := qd0 HOK.out g (List.mem_of_getElem? hg)
   obtain ⟨q1, q2, q3⟩ := qq6 HC.out hg
   obtain ⟨l, hl⟩ : ∃ l : Nat, g.lo = (l : Int) := ⟨g.lo.toNat, by omega⟩
   obtain ⟨h, hh⟩ : ∃ h : Nat, g.hi = (h : Int) := ⟨g.hi.toNat, by omega⟩
   have HCC : Hid (∃ b o c, Value.slice AG n cg = .slice (some ⟨b, o, none⟩) n c ∧ ∀ V', Off Nob w2 V' → V'.cell? ⟨b, o + i * 7 + 5, none⟩ = some (.int .i64 (l : Int)) ∧ V'.cell? ⟨b, o + i * 7 + 6, none⟩ = some (.int .i64 (h : Int))) := hID (by
    have HU' := HUG.out
    rw [← HNG.out] at HU' ⊢
    obtain ⟨b, o, c, he, -, -, hc⟩ := HU'.at_ qcq hg
    refine ⟨b, o, c, he, fun V' oV => ?_⟩
    obtain ⟨b2, o2, c2, he2, -, -, hc2⟩ := (HU'.keep oV (fun _ _ h => h)).at_ qcq hg
    rw [he] at he2
    injection he2 with he2
    injection he2 with he2
    injection he2 with e1 e2 e3
    subst e1 e2
    refine ⟨?_, ?_⟩
    ·rw [← hl]; exact hc2 5 _ rfl
    ·rw [← hh]; exact hc2 6 _ rfl)
   obtain ⟨b, o, c3, he, hcc⟩ := HCC.out
   injection he with he1 he2 he3
   subst he1
   obtain ⟨bc, oc, hAC, hcd⟩ : ∃ bc oc, AC = some ⟨bc, oc, none⟩ ∧ ∀ V', Off Nob w V' → V'.cell? ⟨bc, oc + i, none⟩ = some (.int .i64 ((C.getD i 0 : Nat) : Int)) := by
    obtain ⟨A3, c3, he, _, hca⟩ := qcl (HU.out w oRf) (by decide)
    injection he with he1 he2 he3
    subst he1
    obtain ⟨b, o, rfl, _⟩ := hca w oRf (by omega)
    refine ⟨b, o, rfl, fun V oV => ?_⟩
    obtain ⟨b2, o2, h2, g2⟩ := hca V oV (by omega)
    injection h2 with h2
    injection h2 with h2 h3 h4
    subst h2 h3
    exact g2 i _ (qe7 q1)
   subst hAC
   obtain ⟨x, hx⟩ : ∃ x, C.getD i 0 = x := ⟨_, rfl⟩
   rw [hx] at hcd q2 q3
   rw [hl] at r1 r2 q2
   rw [hh] at r2 r3 q3
   have HC8 : Hid (∀ V', Off Nob w2 V' → (fun Wq => Wq.cell? ⟨bc, oc + i, none⟩ = some (.int .i64 (x : Int)) ∧ Wq.cell? ⟨b, o + i * 7 + 5, none⟩ = some (.int .i64 (l : Int)) ∧ Wq.cell? ⟨b, o + i * 7 + 6, none⟩ = some (.int .i64 (h : Int))) V') := hID (fun V' oV => ⟨hcd V' (O2.out.also oV), hcc V' oV⟩)
   have dl : decide ((x : Int) < (l : Int)) = false := dcF
   have dln : decide (x < l) = false := dcF
   have dh : decide ((h : Int) < (x : Int)) = false := dcF
   have dhn : decide (h < x) = false := dcF
   clear hcc hcd he2 he3 HCC hg hl hh r1 r2 r3 q1 q2 q3 hx
   go_wp2_with fail
   have HO2 := hID (HO.out.also (Off.drew (Off.refl Nob wa)))
   refine wp_region_held_drew (S := fun Wq => Wq.cell? ⟨bc, oc + i, none⟩ = some (.int .i64 (x : Int)) ∧ Wq.cell? ⟨b, o + i * 7 + 5, none⟩ = some (.int .i64 (l : Int)) ∧ Wq.cell? ⟨b, o + i * 7 + 6, none⟩ = some (.int .i64 (h : Int))) (by kernel_rfl) (HC8.out _ HO2.out) (fun hHeld => ?_)
   revert hHeld HO2
   generalize wa.drew = vb
   intro HO2 hHeld
   refine tkH 0 ?_
   refine tkH 1 ?_
   refine tkH 2 ?_
   refine tkH 3 ?_
   refine tkH 4 ?_
   refine tkH 5 ?_
   refine tkH 6 ?_
   refine tkH 7 ?_
   refine tkH 8 ?_
   refine tkH 9 ?_
   refine tkH 10 ?_
   refine tkH 11 ?_
   refine tkH 12 ?_
   refine tkH 13 ?_
   refine tkH 14 ?_
   refine tkH 15 ?_
   refine tkH 16 ?_
   refine tkH 17 ?_
   refine tkH 18 ?_
   refine tkH 19 ?_
   refine tkH 20 ?_
   refine tkH 21 ?_
   refine wpAnyH_done (by kernel_rfl) ?_ _
   clear hHeld
   go_wp2_with fail
   go_roundw
   case rel => exact ⟨i + 1, HIN.out, rfl, by go_num, HO2.out⟩
   case measure => have := HIN.out; simp [intOf]; omega
  ·obtain rfl : i = n := by omega
   have d1 : decide ((i : Int) < (i : Int)) = false := by simp
   have d1n : decide (i < i) = false := by simp
   have O3 := hID (O2.out.also HO.out)
   clear HO O2
   go_wp2_with fail
   go_loopw [10, 11, 12] (fun y kk q wr => ∃ i : Nat, i ≤ n0 ∧ kk = .int .i64 ((gapsN (p.take i)).length : Int) ∧ q = .int .i64 (i : Int) ∧ OwnL w wr 73 4 y (lineN (p.take i) C).length ((lineN (p.take i) C).flatMap encQ)) (fun _ _ q _ => n0 - (intOf q).toNat)
   case atStart => exact ⟨0, Nat.zero_le _, rfl, rfl, OwnL.nilAt O3.out _ _⟩
   case round =>
    obtain ⟨j, hj, rfl, rfl, oW⟩ := hrel
    obtain ⟨wb, rfl⟩ : ∃ z, z = wr := ⟨wr, rfl⟩
    have HW := hID oW
    obtain ⟨AY, cy, rfl⟩ := oW.form
    have hLB : (lineN (p.take j) C).length ≤ 1024 := by
     have h := qdu (b := 16) (by decide) (p.take j) C HC16.out
     rw [List.length_take] at h
     omega
    have HKL : Hid ((gapsN (p.take j)).length ≤ 60) := hID (by
     have h := qdl (p.take j)
     rw [List.length_take] at h
     omega)
    clear oW O3
    by_cases hjn : j < n0
    ·have d2 : decide ((j : Int) < (n0 : Int)) = true := dcT
     have d2n : decide (j < n0) = true := dT hjn
     have HJN := hID hjn
     have hj60 : j < 60 := by omega
     obtain ⟨x, hx⟩ : ∃ x, p[j]? = some x := ⟨_, gEe (by rw [HN0.out]; exact hjn)⟩
     have HVV := HV.out.keep HW.out.2 (fun _ _ h => h)
     rw [← HN0.out] at HVV
     obtain ⟨b, o, c2, he, -, -, hcc⟩ := HVV.at_ qcq hx
     injection he with he1 he2 he3
     subst he1
     clear he2 he3 HVV
     have a0 := hcc 0 _ rfl
     have a1 := hcc 1 _ rfl
     have a2 := hcc 2 _ rfl
     have a3 := hcc 3 _ rfl
     have a4 := hcc 4 _ rfl
     simp only [Nat.add_zero] at a0
     have HS := hID (qg0 hx)
     have HT : Hid (p.take (j + 1) = p.take j ++ [x]) := hID (by rw [List.take_add_one, hx]; rfl)
     have HLS := hID (qg3 (p.take j) x C)
     have HMID := hID (qvy hx)
     clear hcc hx
     obtain ⟨LB, hLN⟩ : ∃ LB, lineN (p.take j) C = LB := ⟨_, rfl⟩
     rw [hLN] at hLB HW HLS ⊢
     obtain ⟨q, hq⟩ : ∃ q, LB.length = q := ⟨_, rfl⟩
     have HQ := hID hq
     rw [hq] at hLB HW ⊢
     obtain ⟨kk, hkk⟩ : ∃ kk, (gapsN (p.take j)).length = kk := ⟨_, rfl⟩
     have HKK := hID hkk
     have hk60 := HKL.out
     rw [hkk] at HLS HMID hk60 ⊢
     clear hLN hq hkk
     cases hg : x.gap
     ·rw [hg] at a0 HS HLS
      clear hg
      obtain ⟨A6, c6, w6, r6, o6⟩ := qg2 Tryz.underlying65 h0 z0 s0 b0 rfl (by decide) HW.out [.int .u64 (x.cls.1 : Int), .int .u64 (x.cls.2.1 : Int), .int .u64 (x.cls.2.2.1 : Int), .int .u64 (x.cls.2.2.2 : Int)] rfl (by intro u hu; simp at hu; rcases hu with rfl | rfl | rfl | rfl <;> rfl) (by omega) (by decide)
      have R6 := hID r6
      have O6 : Hid (OwnL w w6 73 4 (.slice A6 (q + 1) c6) (lineN (p.take (j + 1)) C).length ((lineN (p.take (j + 1)) C).flatMap encQ)) := hID (by
       rw [HT.out, HLS.out]
       simp only [Bool.false_eq_true, if_false, List.length_append, List.length_singleton, HQ.out, List.flatMap_append]
       simpa [encQ] using o6)
      clear r6 o6
      go_wp2_with (first | (at_builtin; refine qaz _ (by rfl) _ _ _ rfl rfl rfl R6.out ?_) | fail)
      go_roundw
      case rel => exact ⟨j + 1, HJN.out, by rw [HS.out]; simp [HKK.out], by go_num, O6.out⟩
      case measure => have := HJN.out; simp [intOf]; omega
     ·rw [hg] at a0 HS HLS
      have HKN := hID (HMID.out hg)
      clear hg
      obtain ⟨nn, hnn⟩ : ∃ nn, C.getD kk 0 = nn := ⟨_, rfl⟩
      have hkn : kk < i := by have := HKN.out; rw [HNG.out] at this; exact this
      obtain ⟨bc, oc, hAC, hcd⟩ : ∃ bc oc, AC = some ⟨bc, oc, none⟩ ∧ ∀ V', Off Nob w V' → V'.cell? ⟨bc, oc + kk, none⟩ = some (.int .i64 (nn : Int)) := by
       obtain ⟨A3, c3, he, _, hca⟩ := qcl (HU.out w oRf) (by decide)
       injection he with he1 he2 he3
       subst he1
       obtain ⟨b, o, rfl, _⟩ := hca w oRf (by omega)
       refine ⟨b, o, rfl, fun V oV => ?_⟩
       obtain ⟨b2, o2, h2, g2⟩ := hca V oV (by omega)
       injection h2 with h2
       injection h2 with h2 h3 h4
       subst h2 h3
       rw [← hnn]
       exact g2 kk _ (qe7 (by rw [HCL.out]; exact hkn))
      subst hAC
      have HCD := hID hcd
      have hnn16 : nn ≤ 16 := by
       rw [← hnn, gDe, gEe (by rw [HCL.out]; exact hkn)]
       exact HC16.out _ (List.getElem_mem _)
      have HNN := hID hnn
      clear hcd hnn
      go_wp2_with fail
      clear a0 a1 a2 a3 a4
      go_loopw [10, 13] (fun y q5 wr => ∃ t : Nat, t ≤ nn ∧ q5 = .int .i64 (t : Int) ∧ OwnL w wr 73 4 y (LB ++ List.replicate t allQ).length ((LB ++ List.replicate t allQ).flatMap encQ)) (fun _ q5 _ => nn - (intOf q5).toNat)
      case atStart => exact ⟨0, Nat.zero_le _, rfl, by simpa [HQ.out] using HW.out⟩
      case round =>
       obtain ⟨t, ht, rfl, oW⟩ := hrel
       obtain ⟨wc, rfl⟩ : ∃ z, z = wr := ⟨wr, rfl⟩
       have H5 := hID oW
       obtain ⟨AZ, cz, rfl⟩ := oW.form
       have ck := HCD.out wc oW.2
       clear oW HW
       have hl5 : (LB ++ List.replicate t allQ).length ≤ 2048 := by
        rw [List.length_append, HQ.out, List.length_replicate]
        omega
       by_cases htn : t < nn
       ·have d3 : decide ((t : Int) < (nn : Int)) = true := dcT
        have d3n : decide (t < nn) = true := dT htn
        have HTN := hID htn
        have ht16 : t < 16 := by omega
        have e5 : LB ++ List.replicate (t + 1) allQ = (LB ++ List.replicate t allQ) ++ [allQ] := by rw [List.replicate_succ', List.append_assoc]
        have HE5 := hID e5
        clear e5
        obtain ⟨X5, hX5⟩ : ∃ X5, LB ++ List.replicate t allQ = X5 := ⟨_, rfl⟩
        rw [hX5] at H5 hl5 HE5 ⊢
        obtain ⟨n5, hn5⟩ : ∃ n5, X5.length = n5 := ⟨_, rfl⟩
        have HN5 := hID hn5
        rw [hn5] at H5 hl5 ⊢
        clear hX5 hn5
        go_wp2_with fail
        refine (qut wc).mono ?_
        rintro e wd ⟨rfl, od⟩
        have H6 := hID (H5.out.off od)
        clear od ck H5
        obtain ⟨A6, c6, w6, r6, o6⟩ := qg2 Tryz.underlying65 h0 z0 s0 b0 rfl (by decide) H6.out [.int .u64 18446744073709551615, .int .u64 18446744073709551615, .int .u64 18446744073709551615, .int .u64 18446744073709551615] rfl (by intro u hu; simp at hu; subst hu; rfl) (by omega) (by decide)
        have R6 := hID r6
        have O6 : Hid (OwnL w w6 73 4 (.slice A6 (n5 + 1) c6) (LB ++ List.replicate (t + 1) allQ).length ((LB ++ List.replicate (t + 1) allQ).flatMap encQ)) := hID (by
         rw [HE5.out]
         simp only [List.length_append, List.length_singleton, HN5.out, List.flatMap_append]
         simpa [encQ, allQ] using o6)
        clear r6 o6 H6
        go_wp2_with (first | (at_builtin; refine qaz _ (by rfl) _ _ _ rfl rfl rfl R6.out ?_) | fail)
        go_roundw
        case rel => exact ⟨t + 1, HTN.out, by go_num, O6.out⟩
        case measure => have := HTN.out; simp [intOf]; omega
       ·obtain rfl : t = nn := by omega
        have d3 : decide ((t : Int) < (t : Int)) = false := by simp
        have d3n : decide (t < t) = false := by simp
        have O6 : Hid (OwnL w wc 73 4 (.slice AZ (LB ++ List.replicate t allQ).length cz) (lineN (p.take (j + 1)) C).length ((lineN (p.take (j + 1)) C).flatMap encQ)) := hID (by
         rw [HT.out, HLS.out]
         simp only [if_true, HNN.out]
         exact H5.out)
        clear H5
        go_wp2_with fail
        go_roundw
        case rel => exact ⟨j + 1, HJN.out, by rw [HS.out]; simp [HKK.out], by go_num, O6.out⟩
        case measure => have := HJN.out; simp [intOf]; omega
    ·obtain rfl : j = n0 := by omega
     have d2 : decide ((j : Int) < (j : Int)) = false := by simp
     have d2n : decide (j < j) = false := by simp
     have e : p.take j = p := List.take_of_length_le (by rw [HN0.out]; exact Nat.le_refl _)
     rw [e] at HW hLB ⊢
     have HR : Hid (EQ wb (fun k => w.heap.size ≤ k) (.slice AY (lineN p C).length cy) (lineN p C)) := hID (Rd.own HW.out.1 (fun k hk => (HW.out.1.lt k hk).1))
     have HE : Hid (Off Nob w wb) := hID HW.out.2
     clear e HW
     go_wp2_with fail
     exact bodyPost_ret (v := .tuple #[.slice AY (lineN p C).length cy, .int .i64 0]) (by simp [results, Tryz.f90, go_sem]) rfl ⟨_, rfl, HR.out, HE.out⟩
end
section
open Go.RowKit
theorem Tryz.infoLl : (Tryz.prog.info? 65).map (fun i => (i.zero, i.size, i.bytes)) = some (some (.slice none 0 0), 1, 24) := by kernel_rfl
def qh9 (p : List El) (R : List (List Q4)) : Prop := PatOk p ∧ ∀ L, L ∈ R ↔ ∃ c, okCh (gapsN p) c ∧ L = lineN p c
def q1y (w : World) (p : List El) (e : Ending) (w' : World) : Prop := ∃ (u : Value) (x : Int) (R : List (List Q4)), e = .returned (.tuple #[u, .int .i64 x]) ∧ RdLs EQ w' (fun k => w.heap.size ≤ k) u R ∧ (R ≠ [] → qh9 p R) ∧ (PatOk p → gapsN p = [] → x = 0 ∧ R = [lineN p []]) ∧ R.length ≤ 1000000 ∧ (∀ L ∈ R, L.length ≤ 1024) ∧ Off Nob w w'
theorem qz8 (p : List El) (hb : ∀ e ∈ p, ElB e) (hn : p.length ≤ 60) (w : World) (v : Value) (hv : RdL w (fun _ => True) 7 elV v p) : Calls Tryz.prog 56 #[v] w (q1y w p) := by
 obtain ⟨i0, h0, z0, s0, b0⟩ := info_parts Tryz.infoLl
 have HCH := hID (qvx p hb hn w v hv)
 have HLN := hID (fun (V : World) (oV : Off Nob w V) (u : Value) (C : List Nat) (h1 : PatOk p) (h2 : okCh (gapsN p) C) (h3 : EN V (fun _ => True) u C) => q1x p hb hn h1 C h2 V v u (RdL.keep hv oV (fun _ _ h => h)) h3)
 have HN := hID hn
 obtain ⟨A, c, rfl⟩ := hv.form
 obtain ⟨n0, hnn⟩ : ∃ n, p.length = n := ⟨_, rfl⟩
 rw [hnn] at HCH HLN ⊢
 clear hv hb hnn hn
 go_enter Tryz.func56, Tryz.ntmps56
 go_wp2_with fail
 refine HCH.out.mono ?_
 rintro e w1 ⟨u, x1, OL, rfl, hol, hx1, hf1, o1⟩
 have O1 := hID o1
 have HX1 := hID hx1
 obtain ⟨AL, cl, rfl⟩ := hol.form
 have HOL := hID hol
 have HF1 := hID hf1
 clear o1 hx1 hf1 HCH hol
 by_cases hx : x1 = 0
 ·have dx : (x1 != 0) = false := by simp [hx]
  have HPO := hID (HX1.out hx)
  clear hx HX1
  obtain ⟨m, hm⟩ : ∃ m, OL.length = m := ⟨_, rfl⟩
  have HM := hID hm
  have hm64 : m ≤ 64 := by rw [← hm]; exact HPO.out.2.2.1
  rw [hm] at HOL ⊢
  clear hm
  go_wp2_with fail
  go_loopw [6, 7] (fun y q wr => ∃ i : Nat, i ≤ m ∧ q = .int .i64 (i : Int) ∧ GrowL EQ w1 65 y ((OL.take i).map (lineN p)) wr) (fun _ q _ => m - (intOf q).toNat)
  case atStart => exact ⟨0, Nat.zero_le _, rfl, GrowL.nil EQ 65 oRf⟩
  case round =>
   obtain ⟨i, hi, rfl, hg⟩ := hrel
   obtain ⟨wa, rfl⟩ : ∃ z, z = wr := ⟨wr, rfl⟩
   have HG := hID hg
   have HO := hID hg.o
   obtain ⟨AY, cy, rfl⟩ := hg.form
   clear hg
   have hy64 : ((OL.take i).map (lineN p)).length ≤ 64 := by
    rw [List.length_map, List.length_take, HM.out]
    omega
   by_cases him : i < m
   ·have d1 : decide ((i : Int) < (m : Int)) = true := dcT
    have d1n : decide (i < m) = true := dT him
    have HIM := hID him
    have hi64 : i < 64 := by omega
    obtain ⟨C, hc⟩ : ∃ C, OL[i]? = some C := ⟨_, gEe (by rw [HM.out]; exact him)⟩
    have hck := (HPO.out.2.1 C).1 (List.mem_of_getElem? hc)
    rw [← HM.out] at HOL
    obtain ⟨b, o, cc, u, he, hac, hue⟩ := HOL.out.at_ lasts_EN hc
    injection he with he1 he2 he3
    subst he1
    clear he2 he3
    rw [HM.out] at HOL
    have ck := hac wa Nob HO.out (fun _ _ h => h)
    have HL := hID (HLN.out wa (O1.out.also HO.out) u C HPO.out.1 hck ((Rd.keep hue HO.out (fun _ _ h => h)).mono (fun _ _ => trivial)))
    have HT : Hid ((OL.take (i + 1)).map (lineN p) = (OL.take i).map (lineN p) ++ [lineN p C]) := hID (by rw [List.take_add_one, hc, List.map_append]; rfl)
    obtain ⟨X5, hX5⟩ : ∃ X5, (OL.take i).map (lineN p) = X5 := ⟨_, rfl⟩
    rw [hX5] at HG hy64 HT ⊢
    obtain ⟨n5, hn5⟩ : ∃ n5, X5.length = n5 := ⟨_, rfl⟩
    have HN5 := hID hn5
    rw [hn5] at HG hy64 ⊢
    clear hac hue hc hck hX5 hn5
    go_wp2_with fail
    refine HL.out.mono ?_
    rintro e w5 ⟨xl, rfl, hxl, o5⟩
    obtain ⟨A7, c7, rfl⟩ := RdL.form hxl
    obtain ⟨l7, hl7⟩ : ∃ z, (lineN p C).length = z := ⟨_, rfl⟩
    rw [hl7] at hxl ⊢
    have hb5 : ∀ k, wa.heap.size ≤ k → w1.heap.size ≤ k ∧ (Value.slice AY n5 cy).ownBlock ≠ some k := fun k hk => by
     refine ⟨Nat.le_trans HG.out.o.size hk, fun e => ?_⟩
     obtain ⟨vs, _, h2, _⟩ := HG.out.x
     have := (h2.lt k e).2
     omega
    obtain ⟨x', w6, r6, hg6, -, -⟩ := (HG.out.go lasts_EQ o5).push lasts_EQ Tryz.underlying100 h0 z0 s0 b0 (lasts_EQ.mono hxl (fun k hk => hb5 k hk)) (by rw [HN5.out]; omega)
    obtain ⟨A8, c8, rfl⟩ := hg6.form
    have R6 := hID r6
    have HG6 := hID hg6
    have HLL : Hid ((X5 ++ [lineN p C]).length = n5 + 1) := hID (by rw [List.length_append, HN5.out]; rfl)
    rw [HLL.out] at R6 HG6
    clear hxl r6 hg6 o5 HL ck hl7 hb5
    go_wp2_with (first | (at_builtin; refine qaz _ (by rfl) _ _ _ rfl rfl rfl R6.out ?_) | fail)
    go_roundw
    case rel => exact ⟨i + 1, HIM.out, by go_num, by rw [HT.out]; exact HG6.out⟩
    case measure => have := HIM.out; simp [intOf]; omega
   ·obtain rfl : i = m := by omega
    have d1 : decide ((i : Int) < (i : Int)) = false := by simp
    have d1n : decide (i < i) = false := by simp
    have e : OL.take i = OL := List.take_of_length_le (by rw [HM.out]; exact Nat.le_refl _)
    rw [e] at HG hy64 ⊢
    have HR := hID ((qak lasts_EQ).mono (HG.out.rd lasts_EQ) (G := fun k => w.heap.size ≤ k) (fun k hk => Nat.le_trans O1.out.size hk))
    have HW := hID (O1.out.also HG.out.o)
    have HLO : Hid (qh9 p (OL.map (lineN p))) := hID ⟨HPO.out.1, fun L => by
     rw [List.mem_map]
     constructor
     ·rintro ⟨c, h1, rfl⟩; exact ⟨c, (HPO.out.2.1 c).1 h1, rfl⟩
     ·rintro ⟨c, h1, rfl⟩; exact ⟨c, (HPO.out.2.1 c).2 h1, rfl⟩⟩
    have HLB : Hid (∀ L ∈ OL.map (lineN p), L.length ≤ 1024) := hID (fun L hL => by
     obtain ⟨c, hc, rfl⟩ := List.mem_map.1 hL
     have h := qdu (b := 16) (by decide) p c (fun y hy => qgf (b := 16) (fun g hg => (qd0 HPO.out.1 g hg).2.2) ((HPO.out.2.1 c).1 hc) y hy)
     have := HN.out
     omega)
    have HLM : Hid ((OL.map (lineN p)).length ≤ 1000000) := hID (by omega)
    clear e HG
    go_wp2_with fail
    exact bodyPost_ret (v := .tuple #[.slice AY (OL.map (lineN p)).length cy, .int .i64 0]) (by simp [results, Tryz.f56, go_sem]) rfl ⟨_, _, OL.map (lineN p), rfl, HR.out, fun _ => HLO.out, fun _ hf => ⟨rfl, by rw [qoq HPO.out.2 hf]; rfl⟩, HLM.out, HLB.out, HW.out⟩
 ·have dx : (x1 != 0) = true := bne_iff_ne.2 hx
  have HXN := hID hx
  clear hx
  go_wp2_with fail
  exact bodyPost_ret (v := .tuple #[.slice none 0 0, .int .i64 x1]) (by simp [results, Tryz.f56, go_sem]) rfl ⟨_, _, [], rfl, qor _ _ _, fun h => absurd rfl h, fun hp hf => absurd (HF1.out hp hf) HXN.out, by decide, fun L h => (by cases h), O1.out⟩
def EP (w : World) (F : Nat → Prop) (v : Value) (p : List El) : Prop := RdL w F 7 elV v p
theorem lasts_EP : Lasts EP := qma 7 elV
structure PatsB (ps : List (List El)) : Prop where
 el : ∀ p ∈ ps, ∀ e ∈ p, ElB e
 len : ∀ p ∈ ps, p.length ≤ 60
 all : ps.length ≤ 60
def FitR (w : World) (ps : List (List El)) (e : Ending) (w' : World) : Prop := ∃ n x : Int, e = .returned (.tuple #[.int .i64 n, .int .i64 x]) ∧ Off Nob w w' ∧ ((∀ p ∈ ps, PatOk p ∧ gapsN p = []) → ps.length ≤ 4 → x = 0)
theorem r_fit (ps : List (List El)) (hb : PatsB ps) (w : World) (v : Value) (hv : RdLs EP w (fun _ => True) v ps) : Calls Tryz.prog 55 #[v] w (FitR w ps) := by
 have HB := hID hb
 have hm60 := hb.all
 obtain ⟨A, c, rfl⟩ := hv.form
 have HV := hID hv
 obtain ⟨m, hm⟩ : ∃ n, ps.length = n := ⟨_, rfl⟩
 have HM := hID hm
 rw [hm] at HV hm60 ⊢
 clear hv hb hm
 go_enter Tryz.func55, Tryz.ntmps55
 go_wp2_with fail
 go_loopw [4, 5] (fun z q wr => ∃ (i : Nat) (n : Int), i ≤ m ∧ q = .int .i64 (i : Int) ∧ z = .int .i64 n ∧ Off Nob w wr ∧ ((∀ p ∈ ps, PatOk p ∧ gapsN p = []) → m ≤ 4 → 0 ≤ n ∧ n ≤ ((i * 60 : Nat) : Int))) (fun _ q _ => m - (intOf q).toNat)
 case atStart => exact ⟨0, 0, Nat.zero_le _, rfl, rfl, Off.refl _ _, fun _ _ => ⟨by decide, by decide⟩⟩
 case round =>
  obtain ⟨i, n, hi, rfl, rfl, ho, hnv⟩ := hrel
  have HO := hID ho
  have HNV := hID hnv
  clear ho hnv
  by_cases him : i < m
  ·have d1 : decide ((i : Int) < (m : Int)) = true := dcT
   have d1n : decide (i < m) = true := dT him
   have HIM := hID him
   have hi60 : i < 60 := by omega
   obtain ⟨p, hp⟩ : ∃ p, ps[i]? = some p := ⟨_, gEe (by rw [HM.out]; exact him)⟩
   rw [← HM.out] at HV
   obtain ⟨b, o, cc, u, he, hac, hue⟩ := HV.out.at_ lasts_EP hp
   injection he with he1 he2 he3
   subst he1
   clear he2 he3
   rw [HM.out] at HV
   have ck := hac wr Nob HO.out (fun _ _ h => h)
   have HPS := hID (qi4 p (HB.out.el p (List.mem_of_getElem? hp)) (HB.out.len p (List.mem_of_getElem? hp)) wr u (lasts_EP.keep hue HO.out (fun _ _ h => h)))
   have HFL : Hid (∀ q, (∀ p ∈ ps, PatOk p ∧ gapsN p = []) → q = p.length → PatOk p ∧ gapsN p = [] ∧ q ≤ 60) := hID (fun q h e => ⟨(h p (List.mem_of_getElem? hp)).1, (h p (List.mem_of_getElem? hp)).2, by rw [e]; exact HB.out.len p (List.mem_of_getElem? hp)⟩)
   clear hac hue hp
   go_wp2_with fail
   refine HPS.out.mono ?_
   rintro e w5 ⟨n1, x1, rfl, -, hf1, o5⟩
   have O5 := hID (HO.out.also o5)
   have HF1 := hID hf1
   clear o5 hf1 HPS ck
   by_cases hx : x1 = 0
   ·have dx : (x1 != 0) = false := by simp [hx]
    clear hx
    go_wp2_with fail
    go_roundw
    case rel => exact ⟨i + 1, _, HIM.out, by go_num, rfl, O5.out, fun h h4 => by
     obtain ⟨e1, e2, e3⟩ := HFL.out _ h rfl
     have e4 := (HF1.out e1 e2).2
     have e5 := HNV.out h h4
     have e6 := HIM.out
     (try unfold wrap64)
     omega⟩
    case measure => have := HIM.out; simp [intOf]; omega
   ·have dx : (x1 != 0) = true := bne_iff_ne.2 hx
    have HXN := hID hx
    clear hx
    go_wp2_with fail
    exact bodyPost_ret (v := .tuple #[.int .i64 (i : Int), .int .i64 x1]) (by simp [results, Tryz.f55, go_sem]) rfl ⟨_, _, rfl, O5.out, fun h _ => absurd (by obtain ⟨e1, e2, -⟩ := HFL.out _ h rfl; exact (HF1.out e1 e2).1) HXN.out⟩
  ·obtain rfl : i = m := by omega
   have d1 : decide ((i : Int) < (i : Int)) = false := by simp
   have d1n : decide (i < i) = false := by simp
   by_cases h16 : 16 < i
   ·have d2 : decide ((16 : Int) < (i : Int)) = true := dcT
    have d2n : decide (16 < i) = true := dT h16
    have H16 := hID h16
    clear h16
    go_wp2_with fail
    exact bodyPost_ret (v := .tuple #[.int .i64 (i : Int), .int .i64 3]) (by simp [results, Tryz.f55, go_sem]) rfl ⟨_, _, rfl, HO.out, fun _ h => by have := H16.out; rw [HM.out] at h; omega⟩
   ·have d2 : decide ((16 : Int) < (i : Int)) = false := dcF
    have d2n : decide (16 < i) = false := dF h16
    clear h16
    by_cases hz : 256 < n
    ·have dz : decide (256 < n) = true := dT hz
     have HZ := hID hz
     clear hz
     go_wp2_with fail
     exact bodyPost_ret (v := .tuple #[.int .i64 (i : Int), .int .i64 3]) (by simp [results, Tryz.f55, go_sem]) rfl ⟨_, _, rfl, HO.out, fun h h4 => by have := HZ.out; rw [HM.out] at h4; have := HNV.out h h4; omega⟩
    ·have dz : decide (256 < n) = false := dF hz
     clear hz
     go_wp2_with fail
     exact bodyPost_ret (v := .tuple #[.int .i64 0, .int .i64 0]) (by simp [results, Tryz.f55, go_sem]) rfl ⟨_, _, rfl, HO.out, fun _ _ => rfl⟩
end
section
open Go.RowKit
def rowBo (m : Nat) (f : Nat → Bool) : List Value := qgd ((List.range m).map f)
theorem qfd {m j : Nat} (f : Nat → Bool) (h : j < m) : (rowBo m f)[j]? = some (.bool (f j)) := by simp [rowBo, qgd, h]
theorem qbd {m : Nat} {f g : Nat → Bool} (h : ∀ j, j < m → f j = g j) : rowBo m f = rowBo m g := by
 unfold rowBo
 congr 1
 exact List.map_congr_left (fun j hj => h j (List.mem_range.1 hj))
theorem qid {m j : Nat} (f : Nat → Bool) (x : Bool) : (rowBo m f).set j (.bool x) = rowBo m (fun i => if i = j then x else f i) := by
 apply List.ext_getElem
 ·simp [rowBo, qgd]
 ·intro i h1 h2
  rw [List.getElem_set]
  simp only [rowBo, qgd, List.getElem_map, List.getElem_range]
  split
  ·next e => subst e; simp
  ·next e => rw [if_neg (fun h => e h.symm)]
theorem qi8 (m : Nat) : rowBo m (fun _ => false) = List.replicate m (.bool false) := by
 apply List.ext_getElem
 ·simp [rowBo, qgd]
 ·intro i h1 h2
  simp [rowBo, qgd]
def partE (e : El) (B : List Nat) (cur : Nat → Bool) (k j : Nat) : Bool :=
 if e.gap then (List.range (j + 1)).any (fun q => decide (q < k) && (cur q && decide (e.lo ≤ ((j - q : Nat) : Int) ∧ ((j - q : Nat) : Int) ≤ e.hi)))
 else decide (1 ≤ j ∧ j ≤ B.length ∧ j - 1 < k) && cur (j - 1) && hasN e.cls (B.getD (j - 1) 0)
theorem qtq (e : El) (B : List Nat) (cur : Nat → Bool) (j : Nat) : partE e B cur 0 j = false := by
 unfold partE
 split
 ·rw [List.any_eq_false]
  intro q hq
  simp
 ·simp
theorem qtr (e : El) (B : List Nat) (cur : Nat → Bool) {m j : Nat} (h : j < m) : partE e B cur m j = stepE e B cur j := by
 unfold partE stepE
 split
 ·rw [Bool.eq_iff_iff, List.any_eq_true, List.any_eq_true]
  constructor
  ·rintro ⟨q, h1, h2⟩
   exact ⟨q, h1, (Bool.and_eq_true _ _ ▸ h2).2⟩
  ·rintro ⟨q, h1, h2⟩
   have := List.mem_range.1 h1
   exact ⟨q, h1, by rw [h2, Bool.and_true]; exact dcT⟩
 ·congr 2
  exact decide_eq_decide.2 (by omega)
theorem qts (e : El) (B : List Nat) (cur : Nat → Bool) {k : Nat} (h : cur k = false) (j : Nat) : partE e B cur (k + 1) j = partE e B cur k j := by
 unfold partE
 split
 ·congr 1
  funext q
  by_cases hq : q = k
  ·subst hq
   rw [h]
   simp
  ·congr 1
   exact decide_eq_decide.2 (by omega)
 ·by_cases hj : j - 1 = k
  ·rw [hj, h]; simp
  ·congr 2
   exact decide_eq_decide.2 (by omega)
theorem qwb {e : El} {B : List Nat} {cur : Nat → Bool} {k : Nat} (hg : e.gap = false) (hc : cur k = true) (hk : k < B.length) (hh : hasN e.cls (B.getD k 0) = true) (j : Nat) : (if j = k + 1 then true else partE e B cur k j) = partE e B cur (k + 1) j := by
 unfold partE
 rw [hg]
 simp only [Bool.false_eq_true, if_false]
 split
 ·next h =>
  subst h
  rw [Nat.add_sub_cancel, hc, hh, Bool.and_true, Bool.and_true]
  exact (dcT).symm
 ·next h =>
  congr 2
  exact decide_eq_decide.2 (by omega)
theorem qkx {e : El} {B : List Nat} {cur : Nat → Bool} {k : Nat} (hg : e.gap = false) (hk : ¬ k < B.length ∨ hasN e.cls (B.getD k 0) = false) (j : Nat) : partE e B cur (k + 1) j = partE e B cur k j := by
 unfold partE
 rw [hg]
 simp only [Bool.false_eq_true, if_false]
 by_cases hj : j = k + 1
 ·subst hj
  rcases hk with h | h
  ·rw [dcF, dcF]
  ·rw [Nat.add_sub_cancel, h, Bool.and_false, Bool.and_false]
 ·congr 2
  exact decide_eq_decide.2 (by omega)
def gapE (e : El) (B : List Nat) (cur : Nat → Bool) (k n j : Nat) : Bool := partE e B cur k j || decide (k ≤ j ∧ e.lo ≤ ((j - k : Nat) : Int) ∧ j < k + n)
theorem qwc (e : El) (B : List Nat) (cur : Nat → Bool) (k : Nat) {l : Nat} (hl : e.lo = (l : Int)) (j : Nat) : gapE e B cur k l j = partE e B cur k j := by
 unfold gapE
 rw [dcF, Bool.or_false]
theorem qyp (e : El) (B : List Nat) (cur : Nat → Bool) (k : Nat) {n : Nat} (hn : e.lo ≤ (n : Int)) (j : Nat) : (if j = k + n then true else gapE e B cur k n j) = gapE e B cur k (n + 1) j := by
 unfold gapE
 split
 ·next h => subst h; rw [dcT, Bool.or_true]
 ·next h =>
  congr 1
  exact decide_eq_decide.2 (by omega)
theorem qo1 {e : El} {B : List Nat} {cur : Nat → Bool} {k n : Nat} (hg : e.gap = true) (hc : cur k = true) {m : Nat} (he : e.hi < (n : Int) ∨ m ≤ k + n) (hn : (n : Int) ≤ e.hi + 1) {j : Nat} (hj : j < m) : gapE e B cur k n j = partE e B cur (k + 1) j := by
 unfold gapE partE
 rw [if_pos hg, if_pos hg]
 rw [Bool.eq_iff_iff, Bool.or_eq_true, List.any_eq_true, List.any_eq_true, decide_eq_true_eq]
 constructor
 ·rintro (⟨q, h1, h2⟩ | ⟨h1, h2, h3⟩)
  ·simp only [Bool.and_eq_true, decide_eq_true_eq] at h2 ⊢
   exact ⟨q, h1, by omega, h2.2⟩
  ·refine ⟨k, List.mem_range.2 (by omega), ?_⟩
   simp only [Bool.and_eq_true, decide_eq_true_eq]
   exact ⟨by omega, hc, h2, by omega⟩
 ·rintro ⟨q, h1, h2⟩
  simp only [Bool.and_eq_true, decide_eq_true_eq] at h2
  by_cases hq : q = k
  ·subst hq
   have := List.mem_range.1 h1
   exact .inr ⟨by omega, h2.2.2.1, by omega⟩
  ·exact .inl ⟨q, h1, by
    simp only [Bool.and_eq_true, decide_eq_true_eq]
    exact ⟨by omega, h2.2⟩⟩
/-! ### all hits -/
def endP (B : List Nat) (ps : List (List El)) (k i : Nat) : List (Int × Int) := ((List.range i).filter (fun r => qaw B (ps.getD r []) (fun _ => true) (k + 1))).map (fun r : Nat => (((k + 1 : Nat) : Int), (r : Int)))
def untP (B : List Nat) (ps : List (List El)) (k : Nat) : List (Int × Int) := (List.range k).flatMap (fun k => endP B ps k ps.length)
theorem qo2 (B : List Nat) (ps : List (List El)) : untP B ps B.length = allP B ps := rfl
theorem qmk (B : List Nat) (ps : List (List El)) (k : Nat) : untP B ps (k + 1) = untP B ps k ++ endP B ps k ps.length := by simp [untP, List.range_succ]
theorem qwd (B : List Nat) (ps : List (List El)) (k : Nat) : endP B ps k 0 = [] := rfl
theorem qyq {B : List Nat} {ps : List (List El)} {k i : Nat} (h : qaw B (ps.getD i []) (fun _ => true) (k + 1) = true) : endP B ps k (i + 1) = endP B ps k i ++ [(((k + 1 : Nat) : Int), (i : Int))] := by
 unfold endP
 rw [List.range_succ, List.filter_append, List.map_append, List.filter_cons, if_pos h]
 rfl
theorem qwe {B : List Nat} {ps : List (List El)} {k i : Nat} (h : qaw B (ps.getD i []) (fun _ => true) (k + 1) = false) : endP B ps k (i + 1) = endP B ps k i := by
 unfold endP
 rw [List.range_succ, List.filter_append, List.map_append, List.filter_cons, h]
 simp
theorem qo3 (B : List Nat) (ps : List (List El)) (k i : Nat) : (endP B ps k i).length ≤ i := by
 unfold endP
 rw [List.length_map]
 have := List.length_filter_le (fun r => qaw B (ps.getD r []) (fun _ => true) (k + 1)) (List.range i)
 rw [List.length_range] at this
 exact this
theorem qjr (B : List Nat) (ps : List (List El)) : ∀ k, (untP B ps k).length ≤ k * ps.length
 | 0 => by simp [untP]
 | k + 1 => by
  rw [qmk, List.length_append, Nat.succ_mul]
  have := qjr B ps k
  have := qo3 B ps k ps.length
  omega
end
end Go.Proofs.YtlgjaefcfnndhaaGreatDoor
