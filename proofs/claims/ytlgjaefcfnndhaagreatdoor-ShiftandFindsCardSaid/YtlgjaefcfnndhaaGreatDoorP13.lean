/-
 A range over a function whose body works over an arena: what the law asks of the words Ar, Wk, Off.
-/
import Derived.RangeFuncNested
import Derived.RangeFuncBound
import Derived.RangeFuncCalls
import Derived.RangeFuncLeaves
import Derived.Shelf.Abstract
import Derived.Shelf.RegionOpen
import Derived.OwnWalkIn
import Derived.TacticsInMore
import Derived.LoopNIn
import Derived.LoopIn
import Derived.Test.YtlgjaefcfnndhaaGreatDoorP10
import Derived.Shelf.Spec.TrailingZeros
import Derived.Maps.OwnIn
import Derived.Maps.AppendAt
import Derived.Test.YtlgjaefcfnndhaaGreatDoorP12
set_option linter.unusedVariables false
set_option linter.unusedSimpArgs false
set_option maxHeartbeats 16000000
set_option maxRecDepth 100000
namespace Go.Proofs.YtlgjaefcfnndhaaGreatDoor
section
open Go.RowKit Go.Shelf
theorem Blk.isC {w : World} {g : Nat} {t : TypeId} {cs : Array Value} (h : Blk w g t cs) : ∃ o : Obj, w.heap[g]? = some o ∧ o.isCells = true := ⟨_, h, rfl⟩
theorem qqp {w : World} {base : Nat} {e : TypeId} {size n : Nat} {v : Value} {xs : List Value} (h : w.ownsRow base e size v n xs) (g : Nat) (hg : v.ownBlock = some g) : ∃ o : Obj, w.heap[g]? = some o ∧ o.isCells = true := by
 rcases h.2 with ⟨rfl, _⟩ | ⟨g', cap, cur, rfl, _, hh, _⟩
 ·simp [Value.ownBlock] at hg
 ·have e2 : g' = g := by simpa [Value.ownBlock] using hg
  subst e2
  exact ⟨_, hh, rfl⟩
theorem qlx {W W' : World} {row : Option Nat} (hg : W.grownBy W' row) (hr : ∀ r, row = some r → ∃ o : Obj, W.heap[r]? = some o ∧ o.isCells = false) {k : Nat} {o : Obj} (hk : W.heap[k]? = some o) (ho : o.isCells = true) : W'.heap[k]? = W.heap[k]? :=
 hg.block k (Array.getElem?_eq_some_iff.1 hk).1 (fun e => by
  obtain ⟨o2, h2, h3⟩ := hr k e.symm
  rw [hk] at h2
  cases h2
  rw [ho] at h3
  cases h3)
theorem qr2 {F : Nat → Prop} {W W' : World} (o : Off F W W') (hc : ∀ k, F k → ∃ ob : Obj, W.heap[k]? = some ob ∧ ob.isCells = true) : KeepsOthers W W' :=
 ⟨o.size, fun k ob hk hn => (o.block k (Array.getElem?_eq_some_iff.1 hk).1 (fun hf => by
  obtain ⟨o2, h2, h3⟩ := hc k hf
  rw [hk] at h2
  cases h2
  rw [hn] at h3
  cases h3)).trans hk⟩
section
variable {W1 w0 w w' : World} {F : Nat → Prop} {bs : Bks} {p : Nat} {C C2 : List (BitVec 64)} {E E2 : List Ev}
end
def KpB (bl : List Nat) (W W' : World) : Prop := ∀ b ∈ bl, W'.heap[b]? = W.heap[b]?
theorem kpB_t {bl : List Nat} {A B C : World} (h : KpB bl A B) (k : KpB bl B C) : KpB bl A C := fun b hb => (k b hb).trans (h b hb)
theorem kpB_b {bl : List Nat} {w : World} (hlt : ∀ b ∈ bl, b < w.heap.size) (W : World) (l : Nat) (o o' : Obj) (hl : w.heap.size ≤ l) (h : W.heap[l]? = some o) (hc : o.isCells = false) (hw : o.isWalk = false) : KpB bl W (W.putObj l o') :=
 fun b hb => World.putObj_heap_other (fun e => by have := hlt b hb; omega)
def Rest {β : Type} (L : List β) (J : List {x : β // x ∈ L} → World → Prop) (rest : List β) (W : World) : Prop := ∃ pre : List {x : β // x ∈ L}, pre.map Subtype.val ++ rest = L ∧ J pre W
theorem Rest.start {β : Type} {L : List β} {J : List {x : β // x ∈ L} → World → Prop} {W : World} (h : J [] W) : Rest L J L W := ⟨[], rfl, h⟩
theorem qr3 {β : Type} {L : List β} {J Jx : List {x : β // x ∈ L} → World → Prop} {Fe : Fence} {m : Nat} {P : Program} {l : Nat} {enc : β → Array Value} {Kp : World → World → Prop}
  (hY : ∀ pre (x : {x : β // x ∈ L}) W1, J pre W1 → pre.length < L.length → YieldAt Fe m P l (enc x.1) W1 fun e W' => (e = .returned (.bool true) ∧ J (pre ++ [x]) W' ∧ Kp W1 W') ∨ (e = .returned (.bool false) ∧ Jx (pre ++ [x]) W'))
  {x : β} {rest : List β} {W : World} (h : Rest L J (x :: rest) W) :
  YieldAt Fe m P l (enc x) W fun e W' => (e = .returned (.bool true) ∧ Rest L J rest W' ∧ Kp W W') ∨ (e = .returned (.bool false) ∧ ∃ pre, Jx pre W') := by
 obtain ⟨pre, he, hj⟩ := h
 have hm : x ∈ L := by rw [← he]; simp
 have hl : pre.length < L.length := by have := congrArg List.length he; simp at this; omega
 obtain ⟨fn, tmps, assign, body, hy, hR⟩ := hY pre ⟨x, hm⟩ W hj hl
 refine ⟨fn, tmps, assign, body, hy, hR.mono ?_⟩
 rintro e W' (⟨h1, h2, h3⟩ | ⟨h1, h2⟩)
 ·exact .inl ⟨h1, ⟨_, by rw [List.map_append, List.append_assoc]; exact he, h2⟩, h3⟩
 ·exact .inr ⟨h1, _, h2⟩
theorem qup {β : Type} {L : List β} {J : List {x : β // x ∈ L} → World → Prop} {W : World} (h : Rest L J [] W) : ∃ xs : List {x : β // x ∈ L}, xs.map Subtype.val = L ∧ J xs W := by
 obtain ⟨pre, he, hj⟩ := h
 exact ⟨pre, (List.append_nil _).symm.trans he, hj⟩
def Iter {β : Type} (P : Program) (n g : Nat) (lb : Array Value) (enc : β → Array Value) (bl : List Nat) (L : List β) (w : World) : Prop :=
 SeqStopsK Fence.wide n P g lb (fun x : {x : β // x ∈ L} => enc x.1) (KpB bl) (fun xs => xs.map Subtype.val = L) (fun _ => True) L.length w
end
section
open Go.RowKit Go.Shelf
theorem qzb {w : World} {b b' size n : Nat} {e : TypeId} {v : Value} {xs : List Value} (hb : b' ≤ b) (h : w.ownsRow b e size v n xs) : w.ownsRow b' e size v n xs := by
 refine ⟨h.1, ?_⟩
 rcases h.2 with hn | ⟨g, cap, cur, rfl, h1, rest⟩
 ·exact .inl hn
 ·exact .inr ⟨g, cap, cur, rfl, Nat.le_trans hb h1, rest⟩
end
section
open Go.RowKit Go.Shelf
def Tryz.tzRen : Ren := ⟨fun _ => 110, fun x => if x = 3 then 3 else if x = 4 then 4 else if x = 5 then 5 else if x = 22 then 71 else if x = 25 then 139 else if x = 54 then 176 else 0, fun _ => 0⟩
theorem Tryz.tzLay : Lays7.n29 Tryz.prog Tryz.tzRen where
  mixed := by kernel_rfl
  f29 := Tryz.func110
  g1 := by kernel_rfl
  t0 := by kernel_rfl
  a0 := fun w => by kernel_rfl
  z0 := fun w => by kernel_rfl
  v0 := fun w => by kernel_rfl
  i0 := by kernel_rfl
  t3 := by kernel_rfl
  a3 := fun w => by kernel_rfl
  z3 := fun w => by kernel_rfl
  v3 := fun w => by kernel_rfl
  i3 := by kernel_rfl
  t4 := by kernel_rfl
  a4 := fun w => by kernel_rfl
  z4 := fun w => by kernel_rfl
  v4 := fun w => by kernel_rfl
  i4 := by kernel_rfl
  t5 := by kernel_rfl
  a5 := fun w => by kernel_rfl
  z5 := fun w => by kernel_rfl
  v5 := fun w => by kernel_rfl
  i5 := by kernel_rfl
  t22 := by kernel_rfl
  a22 := fun w => by kernel_rfl
  z22 := fun w => by kernel_rfl
  v22 := fun w => by kernel_rfl
  i22 := by kernel_rfl
  t25 := by kernel_rfl
  a25 := fun w => by kernel_rfl
  z25 := fun w => by kernel_rfl
  v25 := fun w => by kernel_rfl
  i25 := by kernel_rfl
  t54 := by kernel_rfl
  a54 := fun w => by kernel_rfl
  z54 := fun w => by kernel_rfl
def TzT (w : World) : Prop := TabAt 0 Lib.deBruijn64tab w ∧ 0 < w.heap.size
theorem tz_ok (x : Nat) (hx : x < 18446744073709551616) (w : World) (hT : TabAt 0 Lib.deBruijn64tab w) : Calls Tryz.prog 110 #[.int .u64 x] w fun e w' => e = .returned (.int .i64 (Lib.ctz 64 x)) ∧ w' = w :=
  Any7.bits_TrailingZeros64 Tryz.tzLay x hx w (fun _ => hT)
def onesF : Nat → Nat → Nat → List Int
  | 0, _, _ => []
  | f + 1, i, x => if x = 0 then [] else ((64 * i + Lib.ctz 64 x : Nat) : Int) :: onesF f i (x &&& (x - 1))
theorem qd4 {x : Nat} (h : x ≠ 0) : x &&& (x - 1) < x := Nat.lt_of_le_of_lt Nat.and_le_right (by omega)
theorem qxc : ∀ (f g i x : Nat), x ≤ f → x ≤ g → onesF f i x = onesF g i x := by
  intro f
  induction f with
  | zero => intro g i x h _; obtain rfl : x = 0 := by omega
            cases g <;> simp [onesF]
  | succ f ih =>
    intro g i x h k
    by_cases h0 : x = 0
    · subst h0
      cases g <;> simp [onesF]
    · cases g with
      | zero => omega
      | succ g =>
        have := qd4 h0
        simp only [onesF, if_neg h0]
        rw [ih g i (x &&& (x - 1)) (by omega) (by omega)]
def onesW (i x : Nat) : List Int := onesF x i x
theorem qr4 (i : Nat) : onesW i 0 = [] := rfl
theorem qkd (i : Nat) {x : Nat} (h : x ≠ 0) : onesW i x = ((64 * i + Lib.ctz 64 x : Nat) : Int) :: onesW i (x &&& (x - 1)) := by
  have k := qd4 h
  unfold onesW
  obtain ⟨y, rfl⟩ : ∃ y, x = y + 1 := ⟨x - 1, by omega⟩
  rw [onesF, if_neg h]
  congr 1
  exact qxc _ _ _ _ (by omega) (Nat.le_refl _)
def onesL : Nat → List Nat → List Int
  | _, [] => []
  | i, x :: xs => onesW i x ++ onesL (i + 1) xs
def qab (L : List Nat) : List Value := L.map (fun x : Nat => Value.int .u64 (x : Int))
theorem qxd (a : Option Addr) (n c : Nat) (w : World) : Calls Tryz.prog 80 #[.slice a n c] w fun e w' => e = .returned (.func (.func 109) #[] #[.pointer (some ⟨w.heap.size, 0, none⟩)]) ∧ w' = w.alloc (.cells #[.slice a n c] 23) := by
  go_enter Tryz.func80, Tryz.ntmps80
  go_wp2
  go_ret
  exact ⟨rfl, rfl⟩
attribute [local go_sem] Oper.semAt_some
theorem qr5 (m : Nat) (hm : 2 ≤ m) (b g o c : Nat) (L : List Nat) (hL : ∀ x ∈ L, x < 18446744073709551616) (hn : L.length ≤ 8) (w : World) (hb : Blk w b 23 #[.slice (some ⟨g, o, none⟩) L.length c])
    (hg : ∀ k, k < L.length → w.cell? ⟨g, o + k, none⟩ = some (.int .u64 (L.getD k 0 : Nat))) (hg2 : g < w.heap.size) (hT : TzT w) :
    Iter Tryz.prog m 109 #[.pointer (some ⟨b, 0, none⟩)] (fun x : Int => #[.int .i64 x]) [b, g, 0] (onesL 0 L) w := fun l J Jx W hW hJ hJx hY h0 => by
  have KB : Hid (∀ W', KpB [b, g, 0] W W' → Blk W' b 23 #[.slice (some ⟨g, o, none⟩) L.length c] ∧ (∀ k, k < L.length → W'.cell? ⟨g, o + k, none⟩ = some (.int .u64 (L.getD k 0 : Nat))) ∧ TabAt 0 Lib.deBruijn64tab W') := hID (fun W' hk => by
    have e1 := (hk b (by simp)).trans (hW.block b hb.lt)
    have e2 := (hk g (by simp)).trans (hW.block g hg2)
    have e3 := (hk 0 (by simp)).trans (hW.block 0 hT.2)
    exact ⟨hb.to e1, fun k hk => (World.cell?_of_block (a := ⟨g, o + k, none⟩) e2).trans (hg k hk), fun j hj => (World.cell?_of_block (a := ⟨0, j, none⟩) e3).trans (hT.1 j hj)⟩)
  have HK : Hid (KpB [b, g, 0] W W) := hID (fun _ _ => rfl)
  have HY := hID (fun x rest W h => qr3 (x := x) (rest := rest) (W := W) hY h)
  have HJ := hID (Rest.start h0)
  have hLn : ∀ k, L.getD k 0 < 18446744073709551616 := fun k => by
    rw [gDe]
    cases h : L[k]? with
    | none => simp
    | some x => simpa using hL x (List.mem_of_getElem? h)
  have HLN := hID hLn
  clear hW hJ hJx hY h0 hb hg hg2 hT hL hLn
  obtain ⟨hb, hc, ht⟩ := KB.out W HK.out
  have c0 : W.cell? ⟨b, 0, none⟩ = some (.slice (some ⟨g, o, none⟩) L.length c) := hb.cell 0
  clear hb hc ht
  refine callsIn_of_wp Tryz.func109 rfl trivial ?_ rfl
  simp only [Tryz.ntmps109, List.size_toArray, List.length_cons, List.length_nil, Nat.reduceAdd, Nat.reduceSub, Array.replicate_succ, Array.replicate_zero, List.push_toArray, List.append_toArray, List.nil_append, List.cons_append]
  gi_wp2
  clear c0
  gi_loopw [7] (fun p wr => ∃ k : Nat, p = .int .i64 (k : Int) ∧ k ≤ L.length ∧ Rest (onesL 0 L) J (onesL k (L.drop k)) wr ∧ KpB [b, g, 0] W wr) (fun p wr => L.length - (intOf p).toNat)
  case atStart => exact ⟨0, rfl, Nat.zero_le _, HJ.out, HK.out⟩
  case round =>
    obtain ⟨k, rfl, hk, hrel, hkp⟩ := hrel
    have HR := hID hrel
    have HKP := hID hkp
    clear hrel hkp HK
    by_cases hlt : k < L.length
    · have d1 : decide ((k : Int) < (L.length : Int)) = true := dcT
      obtain ⟨hb, hc, ht⟩ := KB.out _ HKP.out
      have ck := hc k hlt
      obtain ⟨x, hx⟩ : ∃ x, L.getD k 0 = x := ⟨_, rfl⟩
      have HX : Hid (x < 18446744073709551616) := hID (by rw [← hx]; exact HLN.out k)
      have HQ : Hid (Rest (onesL 0 L) J (onesW k x ++ onesL (k + 1) (L.drop (k + 1))) wr) := hID (by
        have := HR.out
        rw [List.drop_eq_getElem_cons hlt] at this
        rw [← hx, gDe, gEe hlt]
        exact this)
      rw [hx] at ck
      clear hb hc ht hx HR
      gi_wp2
      obtain ⟨wo, hwo⟩ : ∃ wo : World, wo = wr := ⟨_, rfl⟩
      rw [← hwo] at HQ HKP ck ⊢
      clear hwo ck
      gi_loopw [4] (fun q wq => ∃ y : Nat, q = .int .u64 (y : Int) ∧ y < 18446744073709551616 ∧ Rest (onesL 0 L) J (onesW k y ++ onesL (k + 1) (L.drop (k + 1))) wq ∧ KpB [b, g, 0] W wq) (fun q wq => (intOf q).toNat)
      case atStart => exact ⟨x, rfl, HX.out, HQ.out, HKP.out⟩
      case round =>
        obtain ⟨y, rfl, hy64, hrel2, hkp⟩ := hrel
        have HQ2 := hID hrel2
        have HKP2 := hID hkp
        clear hrel2 hkp HQ HKP HX
        by_cases hy0 : y = 0
        · subst hy0
          have HQ3 : Hid (Rest (onesL 0 L) J (onesL (k + 1) (L.drop (k + 1))) wr) := HQ2
          clear HQ2
          gi_wp2
          go_roundw
          case rel => exact ⟨k + 1, by go_num, by omega, HQ3.out, HKP2.out⟩
          case measure => simp [intOf]; omega
        · have e0 : ((y : Int) == 0) = false := by simp; omega
          have hand : bits .and .u64 (y : Int) ((y : Int) - 1) = ((y &&& (y - 1) : Nat) : Int) := by
            rw [show (y : Int) - 1 = ((y - 1 : Nat) : Int) by omega]
            exact bits_and_u64_nat y _ hy64 (by omega)
          have hz64 := (Lib.lowest_bit 64 y hy0 hy64).2
          obtain ⟨_, _, ht⟩ := KB.out _ HKP2.out
          have HT := hID (tz_ok y hy64 wr ht)
          clear ht
          obtain ⟨fn, tmps, assign, body, hyl, hR⟩ := HY.out ((64 * k + Lib.ctz 64 y : Nat) : Int) (onesW k (y &&& (y - 1)) ++ onesL (k + 1) (L.drop (k + 1))) wr (by have := HQ2.out; rw [qkd k hy0] at this; exact this)
          obtain ⟨z, hz⟩ : ∃ z, Lib.ctz 64 y = z := ⟨_, rfl⟩
          rw [hz] at HT hyl hz64
          have hcast : ((64 * k + z : Nat) : Int) = 64 * (k : Int) + (z : Int) := by push_cast; rfl
          rw [hcast] at hyl
          have hlow := qd4 hy0
          obtain ⟨y2, hy2⟩ : ∃ y2, y &&& (y - 1) = y2 := ⟨_, rfl⟩
          rw [hy2] at hand hlow hR
          clear hz hcast HQ2 hy2
          gi_wp2_with fail
          refine ⟨trivial, ?_⟩
          refine ⟨fun _ => by omega, ?_⟩
          refine (callsIn_wide.2 HT.out).mono ?_
          rintro e wv ⟨rfl, hwv⟩
          subst hwv
          gi_wp2_with fail
          refine ⟨fun _ => by omega, ?_⟩
          refine hR.mono ?_
          rintro e3 W3 (⟨rfl, h3, hk3⟩ | ⟨rfl, pre, h3⟩)
          · have H3 := hID h3
            have K3 := hID (kpB_t HKP2.out hk3)
            clear h3 hk3 hyl hR
            gi_wp2
            go_roundw
            case rel => exact ⟨y2, rfl, by omega, H3.out, K3.out⟩
            case measure => simp [intOf]; omega
          · have H3 := hID h3
            clear h3 hyl hR
            gi_wp2
            refine bodyPost_ret (results_none rfl _ _ _) rfl ?_
            exact ⟨⟨_, rfl⟩, .inr ⟨pre, trivial, H3.out⟩⟩
    · obtain rfl : k = L.length := by omega
      have d1 : decide ((L.length : Int) < (L.length : Int)) = false := dcF
      have HQ : Hid (Rest (onesL 0 L) J [] wr) := hID (by
        have := HR.out
        rw [List.drop_length] at this
        exact this)
      clear HR
      gi_wp2
      go_end0
      obtain ⟨xs, g1, g2⟩ := qup HQ.out
      exact ⟨⟨_, rfl⟩, .inl ⟨xs, g1, g2⟩⟩
theorem Tryz.infoOn : (Tryz.prog.info? 3).map (fun i => (i.zero, i.size, i.bytes)) = some (some (.int .i64 0), 1, 8) := by kernel_rfl
def NewI (w : World) (L : List Int) (e : Ending) (w' : World) : Prop := ∃ v, e = .returned v ∧ w'.ownsRow w.heap.size 3 1 v L.length (L.map (Value.int .i64)) ∧ Off Nob w w'
def CoJ (w : World) (s : Nat) (L : List Int) (W : World) : Prop := ∃ v, Blk W s 22 #[v] ∧ W.ownsRow w.heap.size 3 1 v L.length (L.map (Value.int .i64)) ∧ Off Nob w W
theorem qqq {β : Type} {w : World} {s B : Nat} (hB : w.heap.size ≤ B) (f : β → List Int) : OwnFrom B (fun x W => CoJ w s (f x) W) := fun x W W' row h hg hr => by
  obtain ⟨v, h1, h2, h3⟩ := h
  have hr2 := fun r e => (hr r e).2
  refine ⟨v, h1.to (qlx hg hr2 h1 rfl), qas h2 (fun g hg2 => ?_), h3.grown hg (fun k hk => .inr (Nat.le_trans hB (hr k hk).1))⟩
  obtain ⟨o, ho, hc⟩ := qqp h2 g hg2
  exact qlx hg hr2 ho hc
theorem qr6 (b g o c : Nat) (L : List Nat) (hL : ∀ x ∈ L, x < 18446744073709551616) (hn : L.length ≤ 8) (hN : (onesL 0 L).length ≤ 1024) (w : World) (hb : Blk w b 23 #[.slice (some ⟨g, o, none⟩) L.length c])
    (hg : ∀ k, k < L.length → w.cell? ⟨g, o + k, none⟩ = some (.int .u64 (L.getD k 0 : Nat))) (hg2 : g < w.heap.size) (hT : TzT w) :
    Calls Tryz.prog 108 #[.slice none 0 0, .func (.func 109) #[] #[.pointer (some ⟨b, 0, none⟩)]] w (NewI w (onesL 0 L)) := by
  obtain ⟨i0, hI, hz0, hz1, hz2⟩ := info_parts Tryz.infoOn
  have hblt := hb.lt
  have HG0 := hID hg
  have HT0 := hID hT
  have HB := hID hb
  clear hb hg hT
  refine (callsIn_wide (n := 4)).1 ?_
  refine callsIn_of_wp_marks Tryz.func108 rfl trivial ?_ rfl
  simp only [Tryz.ntmps108, List.size_toArray, List.length_cons, List.length_nil, Nat.reduceAdd, Nat.reduceSub, Array.replicate_succ, Array.replicate_zero, List.push_toArray, List.append_toArray, List.nil_append, List.cons_append]
  gi_wp2_with fail
  obtain ⟨W0, hW0⟩ : ∃ W0, w.alloc (.cells #[.slice none 0 0] 22) = W0 := ⟨_, rfl⟩
  have HS : Hid (W0.heap.size = w.heap.size + 1) := hID (by rw [← hW0]; simp)
  have HI0 : Hid (CoJ w w.heap.size [] W0) := hID (by rw [← hW0]; exact ⟨_, Blk.new _ _ _, (World.ownsRow_nil _ _ _ _ : World.ownsRow _ w.heap.size 3 1 (.slice none 0 0) 0 []), oAl oRf _⟩)
  have HB0 : Hid (Blk W0 b 23 #[.slice (some ⟨g, o, none⟩) L.length c]) := hID (by rw [← hW0]; exact HB.out.alloc _)
  have hb1 : Below w.heap.size w W0 := by rw [← hW0]; exact (Below.refl _ w).alloc (Nat.le_refl _) _
  have HG1 : Hid (∀ k, k < L.length → W0.cell? ⟨g, o + k, none⟩ = some (.int .u64 (L.getD k 0 : Nat))) := hID (fun k hk => (hb1.cell (p := ⟨g, o + k, none⟩) hg2).trans (HG0.out k hk))
  have HT1 : Hid (TzT W0) := hID ⟨fun j hj => (hb1.cell (p := ⟨0, j, none⟩) HT0.out.2).trans (HT0.out.1 j hj), by have := HS.out; omega⟩
  have hg3 : g < W0.heap.size := by have := HS.out; omega
  clear hb1
  rw [hW0]
  clear hW0 HB HG0 HT0
  apply wpIn_rangeFunc_ownH (F := Fence.wide) (n := 4) rfl (by decide) (gf := 109) (lb := #[.pointer (some ⟨b, 0, none⟩)]) rfl trivial (enters_of Tryz.func109 (by kernel_rfl) rfl)
    (qr5 (4 - 1) (by decide) b g o c L hL hn W0 HB0.out HG1.out hg3 HT1.out) (fun h k => kpB_t h k) (kpB_b (fun x hx => by rw [HS.out]; simp at hx; omega)) (Below.refl _ _) (fun _ => rfl)
    (fun pre W => CoJ w w.heap.size (pre.map Subtype.val) W)
    (fun _ _ _ => False) (qqq (by rw [HS.out]; omega) _) (fun _ _ _ _ _ hs _ _ => hs) HI0.out
    (fun x a' W => a' = { tmps := #[.slice none 0 0, .func (.func 109) #[] #[.pointer (some ⟨b, 0, none⟩)], .pointer (some ⟨w.heap.size, 0, none⟩), undef, .slice none 0 0, .int .i64 x.1, .func (.func 109) #[] #[.pointer (some ⟨b, 0, none⟩)], .int .i64 x.1, undef, undef, undef, undef, undef], defers := [] })
  case hAx =>
    rintro x a' s W W' row g3 hg hr
    exact g3
  case hassign =>
    intro l pre x W K hi hK
    have HK := hID (hK _ W (KeepsFrom.refl _ _) (fun x hx => rfl) hi rfl)
    clear hK hi
    gi_wp2
    exact HK.out
  case hbody =>
    rintro l pre x a' W hl hr hi rfl hlt
    obtain ⟨mx, hm⟩ := x
    obtain ⟨v, g1, g2, g3⟩ := hi
    have HNX := hID (show (pre ++ [(⟨mx, hm⟩ : {x // x ∈ onesL 0 L})]).map Subtype.val = pre.map Subtype.val ++ [mx] by simp)
    dsimp only
    generalize pre ++ [(⟨mx, hm⟩ : {x // x ∈ onesL 0 L})] = nx at HNX ⊢
    have hvf : ∃ A c, v = .slice A (pre.map Subtype.val).length c := by
      rcases g2.2 with ⟨rfl, h0⟩ | ⟨g, cap, cur, rfl, _⟩
      · exact ⟨none, 0, by rw [h0]⟩
      · exact ⟨_, cap, rfl⟩
    obtain ⟨A, cap, rfl⟩ := hvf
    have hpl : (pre.map Subtype.val).length ≤ 1024 := by rw [List.length_map]; omega
    obtain ⟨M, hM⟩ : ∃ M, pre.map Subtype.val = M := ⟨_, rfl⟩
    rw [hM] at g1 g2 hpl HNX
    have c0 := g1.cell 0
    simp only [qG] at c0
    have f0 := g1.frozen 0
    have G1 := hID g1
    have G2 := hID g2
    have G3 := hID g3
    clear hm hlt hl hr hM g1 g2 g3 HI0
    gi_wp2_with (gi_at_builtin; refine wpListIn_append_own_at _ rfl _ _ 22 rfl w.heap.size 3 i0 (.int .i64 0) 1 8 Tryz.underlying22 hI hz0 hz1 hz2 rfl (by decide) (.slice A M.length cap) M.length (M.map (Value.int .i64)) rfl (G2.out.alloc _) ⟨W.heap.size, 0, none⟩ 1 1 [.int .i64 mx] rfl rfl ?c1 ?c2 ?c3 ?c4 ?c5 ?_)
    case c1 => exact cell_one_new _ _ _
    case c2 => intro u hu; simp at hu; subst hu; rfl
    case c3 => unfold maxLen; omega
    case c4 => omega
    case c5 => have := G3.out.size; simp; omega
    intro v' w1 hown' gW hnil hat
    rw [show M.map (Value.int .i64) ++ [Value.int .i64 mx] = (nx.map Subtype.val).map (Value.int .i64) by rw [HNX.out]; simp] at hown'
    have hne : (Value.slice A M.length cap).ownBlock ≠ some w.heap.size := qnk G2.out G1.out (by decide)
    have hB1 : Blk w1 w.heap.size 22 #[.slice A M.length cap] := (G1.out.alloc (.cells #[.int .i64 mx] 3)).to (gW.block _ (by have := G1.out.lt; simp; omega) (Ne.symm hne))
    have hb0 := hB1.cell 0
    have hf0 := hB1.frozen 0
    simp only [List.getElem?_toArray, List.getElem?_cons_zero] at hb0
    have HG := hID gW
    have HO := hID hown'
    have HB1 := hID hB1
    have hvf : ∃ A c, v' = .slice A (M.length + 1) c := by
      rcases hown'.2 with ⟨rfl, h0⟩ | ⟨g, cap, cur, rfl, _⟩
      · omega
      · exact ⟨_, cap, rfl⟩
    obtain ⟨A2, cap2, rfl⟩ := hvf
    clear hown' gW hnil hat hne hB1 c0 f0
    gi_wp2_with fail
    have hown2 : (w1.setCell ⟨w.heap.size, 0, none⟩ (.slice A2 (M.length + 1) cap2)).ownsRow w.heap.size 3 1 (.slice A2 (M.length + 1) cap2) (M.length + 1) ((nx.map Subtype.val).map (Value.int .i64)) := qas HO.out fun g hg => Below.heap_setCell _ ⟨w.heap.size, 0, none⟩ _ _ (fun e => by subst e; exact qnk HO.out HB1.out (by decide) hg)
    have hoff : Off (fun k => k = w.heap.size ∨ (Value.slice A M.length cap).ownBlock = some k) W (w1.setCell ⟨w.heap.size, 0, none⟩ (.slice A2 (M.length + 1) cap2)) :=
      Off.put (p := ⟨w.heap.size, 0, none⟩) (Off.grown (oAl oRf _) HG.out (fun k hk => .inl (.inr hk))) (.inl (.inl rfl)) _
    have hge : ∀ k, (k = w.heap.size ∨ (Value.slice A M.length cap).ownBlock = some k) → w.heap.size ≤ k := fun k hk => by
      rcases hk with rfl | hk
      · exact Nat.le_refl _
      · exact (G2.out.lt k hk).1
    refine ⟨(qr2 hoff (fun k hk => ?_)).from _, fun x hx => ?_, ?_⟩
    · rcases hk with rfl | hk
      · exact G1.out.isC
      · exact qqp G2.out k hk
    · have hx2 : x < w.heap.size := by simp at hx; rcases hx with rfl | rfl | rfl <;> omega
      exact hoff.block _ (by have := G3.out.size; omega) (fun h => by have := hge _ h; omega)
    · refine ⟨_, HB1.out.put 0 _, ?_, G3.out.own hoff hge⟩
      rw [show (nx.map Subtype.val).length = M.length + 1 by rw [HNX.out]; simp]
      exact hown2
  case hdone =>
    rintro D xs W hD hxs hi hK
    have HI : Hid (CoJ w w.heap.size (onesL 0 L) (W.putObj D (.deferred none))) := hID (by
      rw [← hxs]
      exact qqq (w := w) (s := w.heap.size) (B := w.heap.size) (Nat.le_refl _) (fun ys : List {x // x ∈ onesL 0 L} => ys.map Subtype.val) xs W _ (some D) hi (grownBy_putObj' W D (.deferred none)) (fun r e => by cases e; exact ⟨by have := HS.out; omega, _, hK, rfl⟩))
    obtain ⟨v, g1, g2, g3⟩ := hi
    obtain ⟨v2, k1, k2, k3⟩ := HI.out
    have hv : v2 = v := by
      have h1 := k1.cell 0
      have h2 := g1.cell 0
      rw [World.cell?_of_block (a := ⟨w.heap.size, 0, none⟩) (World.putObj_heap_other (fun e => by have := HS.out; simp at e; omega))] at h1
      rw [h2] at h1
      simpa using h1.symm
    subst hv
    have c0 := g1.cell 0
    simp only [List.getElem?_toArray, List.getElem?_cons_zero] at c0
    have HK := hID hK
    have K2 := hID k2
    have K3 := hID k3
    have hvf : ∃ A c, v2 = .slice A xs.length c := by
      rcases g2.2 with ⟨rfl, h0⟩ | ⟨g, cap, cur, rfl, _⟩
      · exact ⟨none, 0, by rw [List.length_map] at h0; rw [h0]⟩
      · exact ⟨_, cap, by rw [List.length_map]⟩
    obtain ⟨A, cap, rfl⟩ := hvf
    clear g1 g2 g3 k1 k2 k3 hxs hK HI
    gi_wp2_with fail
    refine ⟨by simp, .inl ⟨_, _, rfl, run_takeDeferred HK.out, ?_⟩⟩
    exact ⟨.slice A xs.length cap, by simp [results, Tryz.f108, go_sem], _, rfl, K2.out, K3.out⟩
  case hstop =>
    rintro D c pre W _ _ h _
    exact h.elim
theorem qzc {w : World} {b i : Nat} {v : Value} (h : w.cell? ⟨b, i, none⟩ = some v) : b < w.heap.size := Nat.lt_of_not_le fun hle => by
  simp [World.cell?, Array.getElem?_eq_none hle] at h
theorem qpl (b g o c : Nat) (L : List Nat) (hL : ∀ x ∈ L, x < 18446744073709551616) (hn : L.length ≤ 8) (hN : (onesL 0 L).length ≤ 1024) (w : World) (hb : Blk w b 23 #[.slice (some ⟨g, o, none⟩) L.length c])
    (hg : ∀ k, k < L.length → w.cell? ⟨g, o + k, none⟩ = some (.int .u64 (L.getD k 0 : Nat))) (hg2 : g < w.heap.size) (hT : TzT w) :
    Calls Tryz.prog 79 #[.func (.func 109) #[] #[.pointer (some ⟨b, 0, none⟩)]] w (NewI w (onesL 0 L)) := by
  have HA := hID (qr6 b g o c L hL hn hN w hb hg hg2 hT)
  clear hb hg hT
  go_enter Tryz.func79, Tryz.ntmps79
  go_wp2_with fail
  refine HA.out.mono ?_
  rintro e w1 ⟨v, rfl, g1, g2⟩
  have G1 := hID g1
  have G2 := hID g2
  clear g1 g2
  go_wp2_with fail
  go_ret
  exact ⟨_, rfl, G1.out, G2.out⟩
theorem q1a (a : Option Addr) (n c : Nat) (h1 : 1 ≤ n) (h2 : n ≤ 8) (w : World) : Calls Tryz.prog 78 #[.slice a n c] w fun e w' => e = .returned (.int .i64 0) ∧ w = w' := by
  have d0 : ((n : Int) == 0) = false := by simp; omega
  have d1 : decide ((8 : Int) < (n : Int)) = false := dcF
  go_enter Tryz.func78, Tryz.ntmps78
  go_wp2_with fail
  go_ret
  exact ⟨rfl, rfl⟩
def NewI2 (w : World) (L : List Int) (e : Ending) (w' : World) : Prop := ∃ v, e = .returned (.tuple #[v, .int .i64 0]) ∧ w'.ownsRow w.heap.size 3 1 v L.length (L.map (Value.int .i64)) ∧ Off Nob w w'
theorem oones (v : Value) (L : List Nat) (hL : ∀ x ∈ L, x < 18446744073709551616) (h1 : 1 ≤ L.length) (hn : L.length ≤ 8) (hN : (onesL 0 L).length ≤ 1024) (w : World) (hv : Rd w (fun _ => True) 1 v L.length (qab L)) (hT : TzT w) :
    Calls Tryz.prog 44 #[v] w (NewI2 w (onesL 0 L)) := by
  obtain ⟨b, o, c, rfl, hc⟩ := hv.cellsT (by omega)
  have HC := hID hc
  have HT := hID hT
  have hlt : b < w.heap.size := by
    have := hc w oRf 0 (.int .u64 (L.getD 0 0 : Nat)) (by cases L with | nil => simp at h1 | cons x xs => rfl)
    exact qzc this
  clear hc hv hT
  have HO := hID (qxd (some ⟨b, o, none⟩) L.length c w)
  have HK := hID (q1a (some ⟨b, o, none⟩) L.length c h1 hn w)
  obtain ⟨W1, hW1⟩ : ∃ W1, w.alloc (.cells #[.slice (some ⟨b, o, none⟩) L.length c] 23) = W1 := ⟨_, rfl⟩
  have X1 : Hid (Off Nob w W1) := hID (by rw [← hW1]; exact oAl oRf _)
  have HA := hID (qpl w.heap.size b o c L hL hn hN W1 (by rw [← hW1]; exact Blk.new _ _ _) (fun k hk => by
    have := HC.out W1 X1.out k (.int .u64 (L.getD k 0 : Nat)) (by simp [qab, gDe, gEe hk])
    exact this) (by have := X1.out.size; omega) ⟨fun j hj => (World.cell?_of_block (a := ⟨0, j, none⟩) (X1.out.block 0 HT.out.2 (fun h => h))).trans (HT.out.1 j hj), by have := X1.out.size; have := HT.out.2; omega⟩)
  rw [hW1] at HO
  clear hW1
  go_enter Tryz.func44, Tryz.ntmps44
  go_wp2_with fail
  refine HK.out.mono ?_
  rintro e w' ⟨rfl, rfl⟩
  go_wp2_with fail
  refine HO.out.mono ?_
  rintro e w' ⟨rfl, rfl⟩
  go_wp2_with fail
  refine HA.out.mono ?_
  rintro e w1 ⟨v, rfl, g1, g2⟩
  have G1 := hID g1
  have G2 := hID g2
  clear g1 g2
  go_wp2_with fail
  go_ret2
  exact ⟨_, rfl, qzb X1.out.size G1.out, X1.out.also G2.out⟩
end
section
open Go.RowKit
theorem qxe {x : Nat} (h0 : x ≠ 0) (h : x < 18446744073709551616) : ∃ m, x = 2 ^ Lib.ctz 64 x * (2 * m + 1) ∧ Lib.ctz 64 x < 64 := by
 obtain ⟨m, h1, h2⟩ := Lib.ctzFrom_spec 64 x (by omega) (by simpa using h)
 have e : Lib.ctz 64 x = Lib.ctzFrom 64 x := by
  unfold Lib.ctz
  rw [if_neg h0]
 rw [e]
 exact ⟨m, h1, h2⟩
theorem qqr {x k m j : Nat} (h : x = 2 ^ k * (2 * m + 1)) (hj : j < k) : x.testBit j = false := by
 rw [h, Nat.testBit_two_pow_mul]
 simp
 omega
theorem q1b {x k m : Nat} (h : x = 2 ^ k * (2 * m + 1)) : x.testBit k = true := by
 rw [h, Nat.testBit_two_pow_mul]
 simp
theorem qjj {x k m : Nat} (h : x = 2 ^ k * (2 * m + 1)) (j : Nat) : (x &&& (x - 1)).testBit j = (x.testBit j && decide (j ≠ k)) := by
 rw [Nat.testBit_and]
 by_cases hj : j < k
 ·rw [qqr h hj]
  simp
 ·have hk : 1 ≤ 2 ^ k := Nat.one_le_two_pow
  have e1 : x - 1 = 2 ^ k * (2 * m) + (2 ^ k - 1) := by rw [h, Nat.mul_add]; omega
  have e2 : (x - 1) / 2 ^ k = 2 * m := by
   rw [e1, Nat.mul_add_div (by omega), Nat.div_eq_of_lt (by omega)]
   rfl
  have e3 : x / 2 ^ k = 2 * m + 1 := by rw [h, Nat.mul_div_cancel_left _ (by omega)]
  obtain ⟨d, rfl⟩ : ∃ d, j = k + d := ⟨j - k, by omega⟩
  have t1 : x.testBit (k + d) = (2 * m + 1).testBit d := by rw [← e3, Nat.testBit_div_two_pow, Nat.add_comm]
  have t2 : (x - 1).testBit (k + d) = (2 * m).testBit d := by rw [← e2, Nat.testBit_div_two_pow, Nat.add_comm]
  rw [t1, t2]
  cases d with
  | zero => simp
  | succ d =>
   rw [Nat.testBit_succ, Nat.testBit_succ]
   simp
   rw [show (2 * m + 1) / 2 = m from by omega]
   simp
theorem quq : ∀ (x : Nat) (i : Nat), x < 18446744073709551616 → (∀ p : Int, p ∈ onesW i x ↔ ∃ j : Nat, j < 64 ∧ x.testBit j = true ∧ p = ((64 * i + j : Nat) : Int)) ∧ (onesW i x).Pairwise (· < ·) := by
 intro x
 induction x using Nat.strongRecOn with
 | _ x ih =>
  intro i hx
  by_cases h0 : x = 0
  ·subst h0
   rw [qr4]
   simp
  ·obtain ⟨m, h1, h2⟩ := qxe h0 hx
   rw [qkd i h0]
   revert h1 h2
   generalize Lib.ctz 64 x = k
   intro h1 h2
   have hlt := qd4 h0
   obtain ⟨i1, i2⟩ := ih _ hlt i (by omega)
   refine ⟨fun p => ?_, List.pairwise_cons.2 ⟨fun p hp => ?_, i2⟩⟩
   ·rw [List.mem_cons, i1]
    constructor
    ·rintro (rfl | ⟨j, a, b, c⟩)
     ·exact ⟨k, h2, q1b h1, rfl⟩
     ·rw [qjj h1] at b
      simp only [Bool.and_eq_true] at b
      exact ⟨j, a, b.1, c⟩
    ·rintro ⟨j, a, b, c⟩
     by_cases e : j = k
     ·subst e
      exact .inl c
     ·refine .inr ⟨j, a, ?_, c⟩
      rw [qjj h1, b]
      simpa using e
   ·obtain ⟨j, a, b, rfl⟩ := (i1 p).1 hp
    rw [qjj h1] at b
    simp only [Bool.and_eq_true, decide_eq_true_eq] at b
    have : ¬ j < k := fun hjk => by rw [qqr h1 hjk] at b; exact absurd b.1 (by simp)
    omega
theorem qly : ∀ (L : List Nat) (i : Nat), (∀ x ∈ L, x < 18446744073709551616) → (∀ p : Int, p ∈ onesL i L ↔ ∃ n : Nat, n < 64 * L.length ∧ bitAt L n = true ∧ p = ((64 * i + n : Nat) : Int)) ∧ (onesL i L).Pairwise (· < ·)
 | [], i, _ => by simp [onesL]
 | x :: L, i, h => by
  obtain ⟨a1, a2⟩ := quq x i (h x List.mem_cons_self)
  obtain ⟨b1, b2⟩ := qly L (i + 1) (fun y hy => h y (List.mem_cons_of_mem _ hy))
  rw [onesL]
  refine ⟨fun p => ?_, List.pairwise_append.2 ⟨a2, b2, fun p hp q hq => ?_⟩⟩
  ·rw [List.mem_append, a1, b1]
   constructor
   ·rintro (⟨j, hj, hb, rfl⟩ | ⟨n, hn, hb, rfl⟩)
    ·refine ⟨j, by rw [List.length_cons]; omega, ?_, rfl⟩
     unfold bitAt
     rw [show j / 64 = 0 from by omega, show j % 64 = j from by omega]
     exact hb
    ·refine ⟨64 + n, by rw [List.length_cons]; omega, ?_, by omega⟩
     unfold bitAt at hb ⊢
     rw [show (64 + n) / 64 = n / 64 + 1 from by omega, show (64 + n) % 64 = n % 64 from by omega, List.getD_cons_succ]
     exact hb
   ·rintro ⟨n, hn, hb, rfl⟩
    rw [List.length_cons] at hn
    by_cases hlt : n < 64
    ·refine .inl ⟨n, hlt, ?_, rfl⟩
     unfold bitAt at hb
     rw [show n / 64 = 0 from by omega, show n % 64 = n from by omega] at hb
     exact hb
    ·refine .inr ⟨n - 64, by omega, ?_, by omega⟩
     unfold bitAt at hb ⊢
     rw [show n / 64 = (n - 64) / 64 + 1 from by omega, show n % 64 = (n - 64) % 64 from by omega, List.getD_cons_succ] at hb
     exact hb
  ·obtain ⟨j, hj, _, rfl⟩ := (a1 p).1 hp
   obtain ⟨n, hn, _, rfl⟩ := (b1 q).1 hq
   omega
theorem qke : ∀ {A B : List Int}, A.Pairwise (· < ·) → B.Pairwise (· < ·) → (∀ x, x ∈ A ↔ x ∈ B) → A = B
 | [], [], _, _, _ => rfl
 | [], b :: B, _, _, h => absurd ((h b).2 List.mem_cons_self) (by simp)
 | a :: A, [], _, _, h => absurd ((h a).1 List.mem_cons_self) (by simp)
 | a :: A, b :: B, hA, hB, h => by
  obtain ⟨a1, a2⟩ := List.pairwise_cons.1 hA
  obtain ⟨b1, b2⟩ := List.pairwise_cons.1 hB
  have e : a = b := by
   rcases List.mem_cons.1 ((h a).1 List.mem_cons_self) with e | e
   ·exact e
   ·rcases List.mem_cons.1 ((h b).2 List.mem_cons_self) with e' | e'
    ·exact e'.symm
    ·have := a1 b e'
     have := b1 a e
     omega
  subst e
  rw [qke a2 b2 (fun x => by
   have := h x
   simp only [List.mem_cons] at this
   constructor
   ·intro hx
    rcases this.1 (.inr hx) with e | e
    ·subst e
     exact absurd (a1 x hx) (by omega)
    ·exact e
   ·intro hx
    rcases this.2 (.inr hx) with e | e
    ·subst e
     exact absurd (b1 x hx) (by omega)
    ·exact e)]
theorem qpm {L : List Nat} (h : ∀ x ∈ L, x < 18446744073709551616) : onesL 0 L = (onesN L).map Int.ofNat := by
 obtain ⟨a1, a2⟩ := qly L 0 h
 refine qke a2 ?_ (fun x => ?_)
 ·rw [List.pairwise_map]
  exact (qc5 L).imp (fun h => by simpa using h)
 ·rw [a1, List.mem_map]
  constructor
  ·rintro ⟨n, h1, h2, rfl⟩
   exact ⟨n, qal.2 ⟨h1, h2⟩, by simp⟩
  ·rintro ⟨n, h1, rfl⟩
   obtain ⟨h2, h3⟩ := qal.1 h1
   exact ⟨n, h2, h3, by simp⟩
def natsV (l : List Nat) : List Value := l.map (fun x : Nat => Value.int .i64 (x : Int))
theorem qej (l : List Nat) (x : Nat) : natsV (l ++ [x]) = natsV l ++ [.int .i64 (x : Int)] := by simp [natsV]
theorem qdk {l : List Nat} {q : Nat} (h : q < l.length) : (natsV l)[q]? = some (.int .i64 ((l.getD q 0 : Nat) : Int)) := by
 simp [natsV, gDe, gEe h]
theorem qca {L : List Nat} (h : ∀ x ∈ L, x < 18446744073709551616) : (onesL 0 L).map (Value.int .i64) = natsV (onesN L) ∧ (onesL 0 L).length = (onesN L).length := by
 rw [qpm h]
 refine ⟨?_, by simp⟩
 unfold natsV
 rw [List.map_map]
 rfl
theorem qec (L : List Nat) : (onesN L).length ≤ 64 * L.length := by
 unfold onesN
 exact Nat.le_trans (List.length_filter_le _ _) (by simp)
end
end Go.Proofs.YtlgjaefcfnndhaaGreatDoor
