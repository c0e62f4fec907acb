/-
  network.Apply.
-/
import Derived.Test.YtlefjlclhmapaaaNetAp
import Derived.Test.YtlefjlclhmapaaaRound
namespace Go.Proofs.Ytlefjlclhmapaaa
open Go.RowKit Go.Shelf
attribute [local go_sem] Oper.semAt_some
set_option linter.unusedVariables false
set_option linter.unusedSimpArgs false
set_option maxRecDepth 100000
theorem monoInA {n : Nat} {P : Program} {f : FuncId} {args : Array Value} {w : World} {R R' : Ending → World → Prop} (h : Calls P f args w R) (hr : ∀ e w', R e w' → R' e w') : CallsIn Fence.wide n P f args w R' := callsIn_wide.2 (h.mono hr)
/-- What Apply holds: two boxes, two rows. -/
def ApI (w : World) (s g1 c1 g2 c2 n : Nat) (A : List Sl) (D : List Nat) (W : World) : Prop :=
  Blk W s 33 #[.slice (some ⟨g1, 0, none⟩) n c1] ∧ Blk W (s + 1) 34 #[.slice (some ⟨g2, 0, none⟩) n c2] ∧ W.ownsRow w.heap.size 41 3 (.slice (some ⟨g1, 0, none⟩) n c1) n (slC A) ∧ W.ownsRow w.heap.size 3 1 (.slice (some ⟨g2, 0, none⟩) n c2) n (inC D) ∧ Off Nob w W ∧ Blk W (s + 1 + 1) 3 #[.int .i64 (n : Int)]
theorem apI_own {β : Type} {w : World} {s g1 c1 g2 c2 n B : Nat} (hB : w.heap.size ≤ B) (f : β → List Sl × List Nat) : OwnFrom B (fun x W => ApI w s g1 c1 g2 c2 n (f x).1 (f x).2 W) := fun x W W' row h hg hr =>
  have hr2 := fun r e => (hr r e).2
  ⟨h.1.turn hg hr2, h.2.1.turn hg hr2, own_turn h.2.2.1 hg hr2, own_turn h.2.2.2.1 hg hr2, h.2.2.2.2.1.grown hg (fun k hk => .inr (Nat.le_trans hB (hr k hk).1)), h.2.2.2.2.2.turn hg hr2⟩
theorem own_blk {w : World} {base : Nat} {e : TypeId} {size n g c : Nat} {xs : List Value} (h : w.ownsRow base e size (.slice (some ⟨g, 0, none⟩) n c) n xs) : ∃ cur, Blk w g e cur := by
  rcases h.2 with ⟨hx, _⟩ | ⟨g', cap, cur, hv, _, hh, _⟩
  · cases hx
  · injection hv with hv1
    injection hv1 with hv1
    injection hv1 with hv1
    subst hv1
    exact ⟨cur, hh⟩
theorem own_there {w : World} {base : Nat} {e : TypeId} {size n g c : Nat} {xs : List Value} (h : w.ownsRow base e size (.slice (some ⟨g, 0, none⟩) n c) n xs) (o k : Nat) (hk : o + k ≤ n * size) : w.there g o k := fun j hj =>
  ⟨by rw [h.cellAt _ (by omega), List.getElem?_eq_getElem (by rw [h.1]; omega)]; rfl, h.frozenAt _⟩
theorem cell_apart {W : World} {b i : Nat} {v : Value} (h : W.cell? ⟨b, i, none⟩ = some v) (g o : Nat) (vs : List Value) (hap : b ≠ g ∨ i + 1 ≤ o ∨ o + vs.length ≤ i) : (W.setCells g o vs).cell? ⟨b, i, none⟩ = some v := by
  have := World.rangeAt_setCells_apart (w := W) (b' := b) (o' := i) (cs := [v]) (fun j u hu => by
    match j, hu with
    | 0, hu => simp at hu; subst hu; exact h) g o vs (by simpa using hap)
  exact this 0 v rfl
/-- What the exchange of a move holds on to. -/
def ApS (s g1 c1 g2 c2 n Bx mi mk : Nat) (dv v0 v1 v2 : Int) (W : World) : Prop := W.cell? ⟨s, 0, none⟩ = some (.slice (some ⟨g1, 0, none⟩) n c1) ∧ W.cell? ⟨s + 1, 0, none⟩ = some (.slice (some ⟨g2, 0, none⟩) n c2) ∧ W.cell? ⟨Bx, 1, none⟩ = some (.int .i64 (mi : Int)) ∧ W.cell? ⟨Bx, 2, none⟩ = some (.int .i64 (mk : Int)) ∧ W.cell? ⟨g2, mi, none⟩ = some (.int .i64 dv) ∧ W.cell? ⟨g1, mi * 3, none⟩ = some (.int .u64 v0) ∧ W.cell? ⟨g1, mi * 3 + 1, none⟩ = some (.int .u64 v1) ∧ W.cell? ⟨g1, mi * 3 + 2, none⟩ = some (.int .u64 v2) ∧ W.there g1 (mk * 3) 3 ∧ W.there g2 mk 1
def ApT (s g1 c1 g2 c2 n Bx mi : Nat) (W : World) : Prop := W.cell? ⟨s, 0, none⟩ = some (.slice (some ⟨g1, 0, none⟩) n c1) ∧ W.cell? ⟨s + 1, 0, none⟩ = some (.slice (some ⟨g2, 0, none⟩) n c2) ∧ W.cell? ⟨Bx, 1, none⟩ = some (.int .i64 (mi : Int)) ∧ W.there g1 (mi * 3) 3 ∧ W.there g2 mi 1
section
variable {s g1 c1 g2 c2 n Bx mi mk : Nat} {dv v0 v1 v2 : Int} {W : World}
theorem ApS.put1 (h : ApS s g1 c1 g2 c2 n Bx mi mk dv v0 v1 v2 W) (ne : s ≠ g1 ∧ s ≠ g2 ∧ s + 1 ≠ g1 ∧ s + 1 ≠ g2 ∧ Bx ≠ g1 ∧ Bx ≠ g2 ∧ g2 ≠ g1) (hk : mk < mi) (x y z : Value) : ApS s g1 c1 g2 c2 n Bx mi mk dv v0 v1 v2 (W.setCells g1 (mk * 3) [x, y, z]) := by
  obtain ⟨h0, h1, h2, h3, h4, h5, h6, h7, h8, h9⟩ := h
  obtain ⟨n1, n2, n3, n4, n5, n6, n7⟩ := ne
  exact ⟨cell_apart h0 _ _ _ (.inl n1), cell_apart h1 _ _ _ (.inl n3), cell_apart h2 _ _ _ (.inl n5), cell_apart h3 _ _ _ (.inl n5), cell_apart h4 _ _ _ (.inl n7), cell_apart h5 _ _ _ (.inr (.inr (by simp; omega))), cell_apart h6 _ _ _ (.inr (.inr (by simp; omega))), cell_apart h7 _ _ _ (.inr (.inr (by simp; omega))), World.there_setCells h8 _ _ _, World.there_setCells h9 _ _ _⟩
theorem ApS.put2 (h : ApS s g1 c1 g2 c2 n Bx mi mk dv v0 v1 v2 W) (ne : s ≠ g1 ∧ s ≠ g2 ∧ s + 1 ≠ g1 ∧ s + 1 ≠ g2 ∧ Bx ≠ g1 ∧ Bx ≠ g2 ∧ g2 ≠ g1) (hk : mk < mi) (x : Value) : ApS s g1 c1 g2 c2 n Bx mi mk dv v0 v1 v2 (W.setCell ⟨g2, mk, none⟩ x) := by
  obtain ⟨h0, h1, h2, h3, h4, h5, h6, h7, h8, h9⟩ := h
  obtain ⟨n1, n2, n3, n4, n5, n6, n7⟩ := ne
  exact ⟨cell_apart h0 g2 mk [x] (.inl n2), cell_apart h1 g2 mk [x] (.inl n4), cell_apart h2 g2 mk [x] (.inl n6), cell_apart h3 g2 mk [x] (.inl n6), cell_apart h4 g2 mk [x] (.inr (.inr (by simp; omega))), cell_apart h5 g2 mk [x] (.inl (Ne.symm n7)), cell_apart h6 g2 mk [x] (.inl (Ne.symm n7)), cell_apart h7 g2 mk [x] (.inl (Ne.symm n7)), World.there_setCells h8 g2 mk [x], World.there_setCells h9 g2 mk [x]⟩
theorem ApT.put1 (h : ApT s g1 c1 g2 c2 n Bx mi W) (ne : s ≠ g1 ∧ s ≠ g2 ∧ s + 1 ≠ g1 ∧ s + 1 ≠ g2 ∧ Bx ≠ g1 ∧ Bx ≠ g2 ∧ g2 ≠ g1) (x y z : Value) : ApT s g1 c1 g2 c2 n Bx mi (W.setCells g1 (mi * 3) [x, y, z]) := by
  obtain ⟨h0, h1, h2, h8, h9⟩ := h
  obtain ⟨n1, n2, n3, n4, n5, n6, n7⟩ := ne
  exact ⟨cell_apart h0 _ _ _ (.inl n1), cell_apart h1 _ _ _ (.inl n3), cell_apart h2 _ _ _ (.inl n5), World.there_setCells h8 _ _ _, World.there_setCells h9 _ _ _⟩
theorem ApT.put2 (h : ApT s g1 c1 g2 c2 n Bx mi W) (ne : s ≠ g1 ∧ s ≠ g2 ∧ s + 1 ≠ g1 ∧ s + 1 ≠ g2 ∧ Bx ≠ g1 ∧ Bx ≠ g2 ∧ g2 ≠ g1) (x : Value) : ApT s g1 c1 g2 c2 n Bx mi (W.setCell ⟨g2, mi, none⟩ x) := by
  obtain ⟨h0, h1, h2, h8, h9⟩ := h
  obtain ⟨n1, n2, n3, n4, n5, n6, n7⟩ := ne
  exact ⟨cell_apart h0 g2 mi [x] (.inl n2), cell_apart h1 g2 mi [x] (.inl n4), cell_apart h2 g2 mi [x] (.inl n6), World.there_setCells h8 g2 mi [x], World.there_setCells h9 g2 mi [x]⟩
end
theorem ApI.drew {w W : World} {s g1 c1 g2 c2 n : Nat} {A : List Sl} {D : List Nat} (h : ApI w s g1 c1 g2 c2 n A D W) : ApI w s g1 c1 g2 c2 n A D W.drew := ⟨h.1, h.2.1, h.2.2.1, h.2.2.2.1, h.2.2.2.2.1.drew, h.2.2.2.2.2⟩
theorem ApI.put1 {w W : World} {s g1 c1 g2 c2 n : Nat} {A : List Sl} {D : List Nat} (h : ApI w s g1 c1 g2 c2 n A D W) (n1 : s ≠ g1) (n2 : s + 1 ≠ g1) (n3 : s + 1 + 1 ≠ g1) (n4 : g2 ≠ g1) (hw : w.heap.size ≤ g1) (k : Nat) (x : Sl) :
    ApI w s g1 c1 g2 c2 n (A.set k x) D (W.setCells g1 (k * 3) [.int .u64 (n64 x.1), .int .u64 (n64 x.2.1), .int .u64 (n64 x.2.2)]) ∧ KeepsOthers W (W.setCells g1 (k * 3) [.int .u64 (n64 x.1), .int .u64 (n64 x.2.1), .int .u64 (n64 x.2.2)]) := by
  obtain ⟨i1, i2, i3, i4, i5, i6⟩ := h
  show ApI w s g1 c1 g2 c2 n (A.set k x) D (((W.setCell ⟨g1, k * 3, none⟩ (.int .u64 (n64 x.1))).setCell ⟨g1, k * 3 + 1, none⟩ (.int .u64 (n64 x.2.1))).setCell ⟨g1, k * 3 + 1 + 1, none⟩ (.int .u64 (n64 x.2.2))) ∧ KeepsOthers W (((W.setCell ⟨g1, k * 3, none⟩ (.int .u64 (n64 x.1))).setCell ⟨g1, k * 3 + 1, none⟩ (.int .u64 (n64 x.2.1))).setCell ⟨g1, k * 3 + 1 + 1, none⟩ (.int .u64 (n64 x.2.2)))
  refine ⟨⟨((i1.far (p := ⟨g1, _, none⟩) n1 _).far (p := ⟨g1, _, none⟩) n1 _).far (p := ⟨g1, _, none⟩) n1 _, ((i2.far (p := ⟨g1, _, none⟩) n2 _).far (p := ⟨g1, _, none⟩) n2 _).far (p := ⟨g1, _, none⟩) n2 _, ?_, ?_, ((i5.put (p := ⟨g1, _, none⟩) (.inr hw) _).put (p := ⟨g1, _, none⟩) (.inr hw) _).put (p := ⟨g1, _, none⟩) (.inr hw) _, ((i6.far (p := ⟨g1, _, none⟩) n3 _).far (p := ⟨g1, _, none⟩) n3 _).far (p := ⟨g1, _, none⟩) n3 _⟩, ((KeepsOthers.setCell _ _ _).trans (KeepsOthers.setCell _ _ _)).trans (KeepsOthers.setCell _ _ _)⟩
  · have := (((i3.stored (k * 3) (.int .u64 (n64 x.1))).1.stored (k * 3 + 1) (.int .u64 (n64 x.2.1))).1.stored (k * 3 + 2) (.int .u64 (n64 x.2.2))).1
    rw [slC_set] at this
    exact this
  · exact own_to i4 (fun g hg => by
      have e : g2 = g := by simpa [Value.ownBlock] using hg
      subst e
      rw [Below.heap_setCell _ ⟨g1, _, none⟩ _ _ n4, Below.heap_setCell _ ⟨g1, _, none⟩ _ _ n4, Below.heap_setCell _ ⟨g1, _, none⟩ _ _ n4])
theorem ApI.put2 {w W : World} {s g1 c1 g2 c2 n : Nat} {A : List Sl} {D : List Nat} (h : ApI w s g1 c1 g2 c2 n A D W) (n1 : s ≠ g2) (n2 : s + 1 ≠ g2) (n3 : s + 1 + 1 ≠ g2) (n4 : g2 ≠ g1) (hw : w.heap.size ≤ g2) (k : Nat) (d : Nat) :
    ApI w s g1 c1 g2 c2 n A (D.set k d) (W.setCell ⟨g2, k, none⟩ (.int .i64 (d : Int))) ∧ KeepsOthers W (W.setCell ⟨g2, k, none⟩ (.int .i64 (d : Int))) := by
  obtain ⟨i1, i2, i3, i4, i5, i6⟩ := h
  refine ⟨⟨i1.far (p := ⟨g2, _, none⟩) n1 _, i2.far (p := ⟨g2, _, none⟩) n2 _, ?_, ?_, i5.put (p := ⟨g2, _, none⟩) (.inr hw) _, i6.far (p := ⟨g2, _, none⟩) n3 _⟩, KeepsOthers.setCell _ _ _⟩
  · exact own_to i3 (fun g hg => by
      have e : g1 = g := by simpa [Value.ownBlock] using hg
      subst e
      rw [Below.heap_setCell _ ⟨g2, _, none⟩ _ _ (Ne.symm n4)])
  · have := (i4.stored k (.int .i64 (d : Int))).1
    rw [inC_set] at this
    exact this
theorem Try.infoSl3 : (Try.prog.info? 41).map (·.size) = some 3 := by kernel_rfl
set_option maxHeartbeats 8000000 in
theorem napply_ok (n b o c b2 o2 c2 : Nat) (A : List Sl) (D : List Nat) (hA : A.length = n) (hD : D.length = n) (h1 : 1 ≤ n) (h2 : n ≤ 288) (w : World) (hb : b < w.heap.size) (hb2 : b2 < w.heap.size)
    (hcA : ∀ j u, (slC A)[j]? = some u → w.cell? ⟨b, o + j, none⟩ = some u) (hcD : ∀ j u, (inC D)[j]? = some u → w.cell? ⟨b2, o2 + j, none⟩ = some u) (hd : ∀ i, i < n → D.getD i 0 ≤ i) :
    Calls Try.prog 17 #[.slice (some ⟨b, o, none⟩) n c, .slice (some ⟨b2, o2, none⟩) n c2] w fun e w' => ∃ g cap, e = .returned (.tuple #[.slice (some ⟨g, 0, none⟩) n cap, .int .i64 0]) ∧ n ≤ cap ∧ w'.ownsRow w.heap.size 41 3 (.slice (some ⟨g, 0, none⟩) n cap) n (slC (apL A D (moves n)).1) ∧ Off Nob w w' := by
  have HA := Lib.hid hA
  have HD := Lib.hid hD
  have HCA := Lib.hid hcA
  have HCD := Lib.hid hcD
  have HDB := Lib.hid hd
  clear hA hD hcA hcD hd
  refine (callsIn_wide (n := 4)).1 ?_
  refine callsIn_of_wp_marks Try.func17 rfl trivial ?_ rfl
  simp only [Try.ntmps17, List.size_toArray, List.length_cons, List.length_nil, Nat.reduceAdd, Nat.reduceSub, Array.replicate_succ, Array.replicate_zero, List.push_toArray, List.append_toArray, List.nil_append, List.cons_append]
  gi_wp2_with fail
  refine ⟨trivial, ?_⟩
  refine monoInA (nrounds_ok n h1 h2 w) ?_
  rintro e w' ⟨rfl, rfl⟩
  gi_wp2_with fail
  gi_loopw [29] (fun i wr => ∃ k : Nat, k ≤ n ∧ i = .int .i64 (k : Int) ∧ wr = w) (fun i _ => n - (intOf i).toNat)
  case atStart => exact ⟨0, Nat.zero_le _, rfl, rfl⟩
  case round =>
    obtain ⟨k, hk, rfl, rfl⟩ := hrel
    by_cases hlt : k < n
    · have hcell : wr.cell? ⟨b2, o2 + k, none⟩ = some (.int .i64 (D.getD k 0 : Nat)) := HCD.out k _ (inC_at D k (by have := HD.out; omega))
      have hdk := HDB.out k hlt
      revert hcell hdk
      generalize D.getD k 0 = d
      intro hcell hdk
      gi_wp2_with fail
      go_roundw
      case rel => exact ⟨k + 1, by omega, by go_num, trivial⟩
      case measure => simp [intOf]; omega
    · obtain rfl : n = k := by omega
      gi_wp2_with fail
      refine ⟨trivial, ?_⟩
      refine monoInA (cloneSl_ok wr b o n c A HA.out h1 (by omega) hb HCA.out) ?_
      rintro e w1 ⟨g1, c1, rfl, hc1, r1, o1⟩
      have R1 := Lib.hid r1
      have O1 := Lib.hid o1
      clear r1 o1
      gi_wp2_with fail
      refine ⟨trivial, ?_⟩
      refine monoInA (cloneI_ok w1 b2 o2 n c2 D HD.out h1 (by omega) (Nat.lt_of_lt_of_le hb2 O1.out.size) (fun j u hu => (O1.out.cell_old hb2 _).trans (HCD.out j u hu))) ?_
      rintro e w2 ⟨g2, c2', rfl, hc2, r2, o2⟩
      have R2 := Lib.hid r2
      have O2 := Lib.hid o2
      clear r2 o2
      gi_wp2_with fail
      refine ⟨trivial, ?_⟩
      refine monoInA (nmoves_any n _) ?_
      rintro e w' ⟨rfl, rfl⟩
      gi_wp2_with fail
      obtain ⟨W0, hW0⟩ : ∃ W0, ((w2.alloc (.cells #[.slice (some ⟨g1, 0, none⟩) n c1] 33)).alloc (.cells #[.slice (some ⟨g2, 0, none⟩) n c2'] 34)).alloc (.cells #[.int .i64 (n : Int)] 3) = W0 := ⟨_, rfl⟩
      have HS : Hid (W0.heap.size = w2.heap.size + 3) := Lib.hid (by rw [← hW0]; simp)
      obtain ⟨s, hs⟩ : ∃ s, w2.heap.size = s := ⟨_, rfl⟩
      have HB0 : Hid (Blk W0 (s + 1 + 1) 3 #[.int .i64 n]) := Lib.hid (by
        rw [← hW0, ← hs]
        have := Blk.new ((w2.alloc (.cells #[.slice (some ⟨g1, 0, none⟩) n c1] 33)).alloc (.cells #[.slice (some ⟨g2, 0, none⟩) n c2'] 34)) 3 #[.int .i64 (n : Int)]
        simpa using this)
      have HI0 : Hid (ApI wr s g1 c1 g2 c2' n A D W0) := Lib.hid (by
        rw [← hW0, ← hs]
        refine ⟨((Blk.new _ _ _).alloc _).alloc _, ?_, (((own_to R1.out (fun g hg => O2.out.block g (R1.out.lt g hg).2 (fun h => h))).alloc _).alloc _).alloc _, ((((own_low O1.out.size R2.out)).alloc _).alloc _).alloc _, (((O1.out.also O2.out).alloc _).alloc _).alloc _, by have := HB0.out; rwa [← hW0, ← hs] at this⟩
        have := (Blk.new (w2.alloc (.cells #[.slice (some ⟨g1, 0, none⟩) n c1] 33)) 34 #[.slice (some ⟨g2, 0, none⟩) n c2']).alloc (.cells #[.int .i64 (n : Int)] 3)
        simpa using this)
      have HG : Hid (wr.heap.size ≤ g1 ∧ g1 < s ∧ wr.heap.size ≤ g2 ∧ g2 < s) := Lib.hid (by
        have a1 := R1.out.lt g1 rfl
        have a2 := R2.out.lt g2 rfl
        have a3 := O2.out.size
        have a4 := O1.out.size
        omega)
      rw [hW0]
      rw [hs] at HS ⊢
      clear hW0 hs R1 R2 O1 O2
      apply range_boxed (n := 4) (by decide) (gf := 62) (lb := #[.pointer (some ⟨s + 1 + 1, 0, none⟩)]) rfl (enters_of Try.func62 (by kernel_rfl) rfl)
        (moves_stops (4 - 1) (by decide) (s + 1 + 1) n h1 h2 W0 HB0.out) (fun h k => kpB_t h k) (kpB_b (fun x hx => by rw [HS.out]; simp at hx; omega)) (fun _ => rfl)
        (fun (pre : List {x : Mv // x ∈ moves n}) W => ApI wr s g1 c1 g2 c2' n (apL A D (pre.map Subtype.val)).1 (apL A D (pre.map Subtype.val)).2 W) (apI_own (w := wr) (B := W0.heap.size) (by rw [HS.out]; have := HG.out; omega) (fun pre : List {x : Mv // x ∈ moves n} => apL A D (pre.map Subtype.val))) HI0.out 49 12 29 (fun x => #[.int .i64 x.1.1, .int .i64 x.1.2.1, .int .i64 x.1.2.2])
      case hassign =>
        intro l pre x W K hi hK
        have HI : Hid (ApI wr s g1 c1 g2 c2' n (apL A D (pre.map Subtype.val)).1 (apL A D (pre.map Subtype.val)).2 (W.alloc (.cells #[.int .i64 x.1.1, .int .i64 x.1.2.1, .int .i64 x.1.2.2] 29))) := Lib.hid ⟨hi.1.alloc _, hi.2.1.alloc _, hi.2.2.1.alloc _, hi.2.2.2.1.alloc _, hi.2.2.2.2.1.alloc _, hi.2.2.2.2.2.alloc _⟩
        have hl := hi.2.2.2.2.2.lt
        have HK := Lib.hid (hK _ _ ((KeepsOthers.alloc W _).from _) (fun x hx => Below.heap_alloc _ _ _ (by simp at hx; omega)) HI.out ⟨W.heap.size, by rw [HS.out]; omega, Blk.new _ _ _, rfl⟩)
        clear hK hi HI
        simp only [mvV]
        gi_wp2
        exact HK.out
      case hbody =>
        rintro l pre x Bx W hi hBx bX hlt
        obtain ⟨⟨mj, mi, mk⟩, hm⟩ := x
        have HNX := Lib.hid (show (pre ++ [(⟨(mj, mi, mk), hm⟩ : {x // x ∈ moves n})]).map Subtype.val = pre.map Subtype.val ++ [(mj, mi, mk)] by simp)
        dsimp only at bX ⊢
        generalize pre ++ [(⟨(mj, mi, mk), hm⟩ : {x // x ∈ moves n})] = nx at HNX ⊢
        obtain ⟨q1, q2⟩ := apL_len A D (pre.map Subtype.val)
        have q3 := apL_bd A D (pre.map Subtype.val) 288 (fun i => by
          by_cases h : i < n
          · have := HDB.out i h; omega
          · simp [List.getD, List.getElem?_eq_none (show D.length ≤ i by have := HD.out; omega)])
        obtain ⟨m1, m2, m3, m4⟩ := moves_mem hm
        have HAP := Lib.hid (apL_snoc A D (pre.map Subtype.val) (mj, mi, mk))
        rw [← HNX.out] at HAP
        dsimp only at m1 m2 m3 m4
        obtain ⟨⟨A1, D1⟩, hAD⟩ : ∃ x, apL A D (pre.map Subtype.val) = x := ⟨_, rfl⟩
        rw [hAD] at hi q1 q2 q3 HAP
        dsimp only at hi q1 q2 q3 HAP
        rw [HA.out] at q1
        rw [HD.out] at q2
        have hr9 := (rn_ok h1 h2).1
        have hpp := Nat.one_le_two_pow (n := mj)
        have hki : mk < mi := by omega
        have hj : mj ≤ 8 := by omega
        have hkn : mk < n := by omega
        have MM := Lib.hid m4
        clear hm hlt HNX hAD m4 m1 m2 hr9 hpp
        obtain ⟨i1, i2, i3, i4, i5, i6⟩ := hi
        have s0 := i1.cell 0
        have s1 := i2.cell 0
        have x0 := bX.cell 0
        have x1 := bX.cell 1
        have x2 := bX.cell 2
        simp only [List.getElem?_toArray, List.getElem?_cons_succ, List.getElem?_cons_zero] at s0 s1 x0 x1 x2
        have d1 := (i4.cellAt mi (by omega)).trans (inC_at D1 mi (by omega))
        obtain ⟨a0, a1, a2⟩ := slC_at A1 mi (by omega)
        rw [← i3.cellAt _ (by omega)] at a0 a1 a2
        have th1 : W.there g1 (mk * 3) 3 := own_there i3 (mk * 3) 3 (by omega)
        have th2 : W.there g2 mk 1 := own_there i4 mk 1 (by omega)
        have NE : Hid (s ≠ g1 ∧ s ≠ g2 ∧ s + 1 ≠ g1 ∧ s + 1 ≠ g2 ∧ Bx ≠ g1 ∧ Bx ≠ g2 ∧ g2 ≠ g1) := Lib.hid (by
          have e1 := HG.out
          have e2 := HS.out
          have e3 : g2 ≠ g1 := fun e => own_diff i4 (show Blk W g1 41 _ from (own_blk i3).choose_spec) (by decide) (by rw [e]; rfl)
          refine ⟨?_, ?_, ?_, ?_, ?_, ?_, e3⟩ <;> omega)
        have HI := Lib.hid (show ApI wr s g1 c1 g2 c2' n A1 D1 W from ⟨i1, i2, i3, i4, i5, i6⟩)
        clear i1 i2 i3 i4 i5 i6
        simp only [List.setIfInBounds_toArray, List.set_cons_zero, List.set_cons_succ]
        have hbt := bits_and1 (D1.getD mi 0 / 2 ^ mj) (by have := q3 mi; have := Nat.div_le_self (D1.getD mi 0) (2 ^ mj); omega)
        have hdq := q3 mi
        have HAPM := Lib.hid (show apM (A1, D1) (mj, mi, mk) = if D1.getD mi 0 / 2 ^ mj % 2 = 1 then ((A1.set mk (sl A1 mi)).set mi (0#64, 0#64, 0#64), (D1.set mk (D1.getD mi 0)).set mi 0) else (A1, D1) from rfl)
        obtain ⟨dn, hdn⟩ : ∃ dn, D1.getD mi 0 = dn := ⟨_, rfl⟩
        have HDN := Lib.hid hdn
        rw [hdn] at d1 hbt hdq HAPM
        clear hdn q3
        obtain ⟨v0, hv0⟩ : ∃ v, n64 (sl A1 mi).1 = v := ⟨_, rfl⟩
        obtain ⟨v1, hv1⟩ : ∃ v, n64 (sl A1 mi).2.1 = v := ⟨_, rfl⟩
        obtain ⟨v2, hv2⟩ : ∃ v, n64 (sl A1 mi).2.2 = v := ⟨_, rfl⟩
        rw [hv0] at a0
        rw [hv1] at a1
        rw [hv2] at a2
        have HV := Lib.hid (And.intro hv0 (And.intro hv1 hv2))
        clear hv0 hv1 hv2
        rw [show bits .and .i64 ((dn / 2 ^ mj : Nat) : Int) 1 = bits .and .i64 ((dn : Int) / 2 ^ mj) 1 by push_cast; rfl] at hbt
        replace hbt : bits .and .i64 ((dn : Int) / 2 ^ mj) 1 = if dn / 2 ^ mj % 2 = 1 then 1 else 0 := by
          rw [hbt]
          rcases Nat.mod_two_eq_zero_or_one (dn / 2 ^ mj) with h | h <;> rw [h] <;> rfl
        obtain ⟨dv, hdv⟩ : ∃ dv : Int, (dn : Int) = dv := ⟨_, rfl⟩
        have HDV := Lib.hid hdv
        have hdv0 : 0 ≤ dv := by omega
        have hdv1 : dv ≤ 288 := by omega
        rw [hdv] at d1 hbt
        clear hdv hdq
        by_cases hbit : dn / 2 ^ mj % 2 = 1
        rotate_left
        · have hb0 : bits .and .i64 (dv / 2 ^ mj) 1 = 0 := by rw [hbt, if_neg hbit]
          have HX := Lib.hid (HAPM.out.trans (if_neg hbit))
          clear hbt hbit HAPM
          gi_wp2_with fail
          rename_i K15 hK15
          refine round_held (S := fun W => W.cell? ⟨s, 0, none⟩ = some (.slice (some ⟨g1, 0, none⟩) n c1) ∧ W.cell? ⟨s + 1, 0, none⟩ = some (.slice (some ⟨g2, 0, none⟩) n c2') ∧ W.cell? ⟨Bx, 0, none⟩ = some (.int .i64 (mj : Int)) ∧ W.cell? ⟨Bx, 1, none⟩ = some (.int .i64 (mi : Int)) ∧ W.cell? ⟨Bx, 2, none⟩ = some (.int .i64 (mk : Int)) ∧ W.cell? ⟨g2, mi, none⟩ = some (.int .i64 dv)) (by kernel_rfl) (by kernel_rfl) (fun ⟨_, _, h⟩ => h) ⟨s0, s1, x0, x1, x2, d1⟩ (fun hHeld => ?_)
          refine wpAnyH_take (i := 0) (v := ?v50) rfl (by kernel_rfl) (by kernel_rfl) (by kernel_rfl) (fun _ _ _ h => h) (Or.inl ⟨by rfl, ?h50⟩) (by assumption) ?r50
          case h50 => (intro w hSw; (try dsimp only at hSw); go_simp <;> with_reducible rfl)
          try simp only [Act.put, List.getElem_toArray, List.getElem_cons_zero, List.getElem_cons_succ, List.setIfInBounds_toArray, List.set_cons_zero, List.set_cons_succ]
          refine wpAnyH_take (i := 1) (v := ?v51) rfl (by kernel_rfl) (by kernel_rfl) (by kernel_rfl) (fun _ _ _ h => h) (Or.inl ⟨by rfl, ?h51⟩) (by assumption) ?r51
          case h51 => (intro w hSw; (try dsimp only at hSw); go_simp <;> with_reducible rfl)
          try simp only [Act.put, List.getElem_toArray, List.getElem_cons_zero, List.getElem_cons_succ, List.setIfInBounds_toArray, List.set_cons_zero, List.set_cons_succ]
          refine wpAnyH_take (i := 2) (v := ?v52) rfl (by kernel_rfl) (by kernel_rfl) (by kernel_rfl) (fun _ _ _ h => h) (Or.inl ⟨by rfl, ?h52⟩) (by assumption) ?r52
          case h52 => (intro w hSw; (try dsimp only at hSw); go_simp <;> with_reducible rfl)
          try simp only [Act.put, List.getElem_toArray, List.getElem_cons_zero, List.getElem_cons_succ, List.setIfInBounds_toArray, List.set_cons_zero, List.set_cons_succ]
          refine wpAnyH_take (i := 3) (v := ?v53) rfl (by kernel_rfl) (by kernel_rfl) (by kernel_rfl) (fun _ _ _ h => h) (Or.inl ⟨by rfl, ?h53⟩) (by assumption) ?r53
          case h53 => (intro w hSw; (try dsimp only at hSw); go_simp <;> with_reducible rfl)
          try simp only [Act.put, List.getElem_toArray, List.getElem_cons_zero, List.getElem_cons_succ, List.setIfInBounds_toArray, List.set_cons_zero, List.set_cons_succ]
          refine wpAnyH_take (i := 4) (v := ?v54) rfl (by kernel_rfl) (by kernel_rfl) (by kernel_rfl) (fun _ _ _ h => h) (Or.inl ⟨by rfl, ?h54⟩) (by assumption) ?r54
          case h54 => (intro w hSw; (try dsimp only at hSw); go_simp <;> with_reducible rfl)
          try simp only [Act.put, List.getElem_toArray, List.getElem_cons_zero, List.getElem_cons_succ, List.setIfInBounds_toArray, List.set_cons_zero, List.set_cons_succ]
          refine wpAnyH_take (i := 5) (v := ?v55) rfl (by kernel_rfl) (by kernel_rfl) (by kernel_rfl) (fun _ _ _ h => h) (Or.inl ⟨by rfl, ?h55⟩) (by assumption) ?r55
          case h55 => (intro w hSw; (try dsimp only at hSw); go_simp <;> with_reducible rfl)
          try simp only [Act.put, List.getElem_toArray, List.getElem_cons_zero, List.getElem_cons_succ, List.setIfInBounds_toArray, List.set_cons_zero, List.set_cons_succ]
          refine wpAnyH_take (i := 6) (v := ?v56) rfl (by kernel_rfl) (by kernel_rfl) (by kernel_rfl) (fun _ _ _ h => h) (Or.inl ⟨by rfl, ?h56⟩) (by assumption) ?r56
          case h56 => (intro w hSw; (try dsimp only at hSw); go_simp <;> with_reducible rfl)
          try simp only [Act.put, List.getElem_toArray, List.getElem_cons_zero, List.getElem_cons_succ, List.setIfInBounds_toArray, List.set_cons_zero, List.set_cons_succ]
          refine wpAnyH_take (i := 7) (v := ?v57) rfl (by kernel_rfl) (by kernel_rfl) (by kernel_rfl) (fun _ _ _ h => h) (Or.inl ⟨by rfl, ?h57⟩) (by assumption) ?r57
          case h57 => (intro w hSw; (try dsimp only at hSw); go_simp <;> with_reducible rfl)
          try simp only [Act.put, List.getElem_toArray, List.getElem_cons_zero, List.getElem_cons_succ, List.setIfInBounds_toArray, List.set_cons_zero, List.set_cons_succ]
          refine wpAnyH_take (i := 8) (v := ?v58) rfl (by kernel_rfl) (by kernel_rfl) (by kernel_rfl) (fun _ _ _ h => h) (Or.inl ⟨by rfl, ?h58⟩) (by assumption) ?r58
          case h58 => (intro w hSw; (try dsimp only at hSw); go_simp <;> with_reducible rfl)
          try simp only [Act.put, List.getElem_toArray, List.getElem_cons_zero, List.getElem_cons_succ, List.setIfInBounds_toArray, List.set_cons_zero, List.set_cons_succ]
          refine wpAnyH_take (i := 9) (v := ?v59) rfl (by kernel_rfl) (by kernel_rfl) (by kernel_rfl) (fun _ _ _ h => h) (Or.inl ⟨by rfl, ?h59⟩) (by assumption) ?r59
          case h59 => (intro w hSw; (try dsimp only at hSw); go_simp <;> with_reducible rfl)
          try simp only [Act.put, List.getElem_toArray, List.getElem_cons_zero, List.getElem_cons_succ, List.setIfInBounds_toArray, List.set_cons_zero, List.set_cons_succ]
          refine wpAnyH_done (by kernel_rfl) ?_ _
          refine hK15 _ _ ?_
          gi_wp2_with fail
          refine ⟨((KeepsOthers.drew _)).from _, fun x hx => rfl, ?_⟩
          dsimp only
          rw [HAP.out, HX.out]
          exact HI.out.drew
        have hb1 : bits .and .i64 (dv / 2 ^ mj) 1 = 1 := by rw [hbt, if_pos hbit]
        have HX := Lib.hid (HAPM.out.trans (if_pos hbit))
        clear hbt hbit HAPM
        gi_wp2_with fail
        rename_i K15 hK15
        refine round_held (S := fun W => W.cell? ⟨s, 0, none⟩ = some (.slice (some ⟨g1, 0, none⟩) n c1) ∧ W.cell? ⟨s + 1, 0, none⟩ = some (.slice (some ⟨g2, 0, none⟩) n c2') ∧ W.cell? ⟨Bx, 0, none⟩ = some (.int .i64 (mj : Int)) ∧ W.cell? ⟨Bx, 1, none⟩ = some (.int .i64 (mi : Int)) ∧ W.cell? ⟨Bx, 2, none⟩ = some (.int .i64 (mk : Int)) ∧ W.cell? ⟨g2, mi, none⟩ = some (.int .i64 dv)) (by kernel_rfl) (by kernel_rfl) (fun ⟨_, _, h⟩ => h) ⟨s0, s1, x0, x1, x2, d1⟩ (fun hHeld => ?_)
        refine wpAnyH_take (i := 0) (v := ?v0) rfl (by kernel_rfl) (by kernel_rfl) (by kernel_rfl) (fun _ _ _ h => h) (Or.inl ⟨by rfl, ?h0⟩) (by assumption) ?r0
        case h0 => (intro w hSw; (try dsimp only at hSw); go_simp <;> with_reducible rfl)
        try simp only [Act.put, List.getElem_toArray, List.getElem_cons_zero, List.getElem_cons_succ, List.setIfInBounds_toArray, List.set_cons_zero, List.set_cons_succ]
        refine wpAnyH_take (i := 1) (v := ?v1) rfl (by kernel_rfl) (by kernel_rfl) (by kernel_rfl) (fun _ _ _ h => h) (Or.inl ⟨by rfl, ?h1⟩) (by assumption) ?r1
        case h1 => (intro w hSw; (try dsimp only at hSw); go_simp <;> with_reducible rfl)
        try simp only [Act.put, List.getElem_toArray, List.getElem_cons_zero, List.getElem_cons_succ, List.setIfInBounds_toArray, List.set_cons_zero, List.set_cons_succ]
        refine wpAnyH_take (i := 2) (v := ?v2) rfl (by kernel_rfl) (by kernel_rfl) (by kernel_rfl) (fun _ _ _ h => h) (Or.inl ⟨by rfl, ?h2⟩) (by assumption) ?r2
        case h2 => (intro w hSw; (try dsimp only at hSw); go_simp <;> with_reducible rfl)
        try simp only [Act.put, List.getElem_toArray, List.getElem_cons_zero, List.getElem_cons_succ, List.setIfInBounds_toArray, List.set_cons_zero, List.set_cons_succ]
        refine wpAnyH_take (i := 3) (v := ?v3) rfl (by kernel_rfl) (by kernel_rfl) (by kernel_rfl) (fun _ _ _ h => h) (Or.inl ⟨by rfl, ?h3⟩) (by assumption) ?r3
        case h3 => (intro w hSw; (try dsimp only at hSw); go_simp <;> with_reducible rfl)
        try simp only [Act.put, List.getElem_toArray, List.getElem_cons_zero, List.getElem_cons_succ, List.setIfInBounds_toArray, List.set_cons_zero, List.set_cons_succ]
        refine wpAnyH_take (i := 4) (v := ?v4) rfl (by kernel_rfl) (by kernel_rfl) (by kernel_rfl) (fun _ _ _ h => h) (Or.inl ⟨by rfl, ?h4⟩) (by assumption) ?r4
        case h4 => (intro w hSw; (try dsimp only at hSw); go_simp <;> with_reducible rfl)
        try simp only [Act.put, List.getElem_toArray, List.getElem_cons_zero, List.getElem_cons_succ, List.setIfInBounds_toArray, List.set_cons_zero, List.set_cons_succ]
        refine wpAnyH_take (i := 5) (v := ?v5) rfl (by kernel_rfl) (by kernel_rfl) (by kernel_rfl) (fun _ _ _ h => h) (Or.inl ⟨by rfl, ?h5⟩) (by assumption) ?r5
        case h5 => (intro w hSw; (try dsimp only at hSw); go_simp <;> with_reducible rfl)
        try simp only [Act.put, List.getElem_toArray, List.getElem_cons_zero, List.getElem_cons_succ, List.setIfInBounds_toArray, List.set_cons_zero, List.set_cons_succ]
        refine wpAnyH_take (i := 6) (v := ?v6) rfl (by kernel_rfl) (by kernel_rfl) (by kernel_rfl) (fun _ _ _ h => h) (Or.inl ⟨by rfl, ?h6⟩) (by assumption) ?r6
        case h6 => (intro w hSw; (try dsimp only at hSw); go_simp <;> with_reducible rfl)
        try simp only [Act.put, List.getElem_toArray, List.getElem_cons_zero, List.getElem_cons_succ, List.setIfInBounds_toArray, List.set_cons_zero, List.set_cons_succ]
        refine wpAnyH_take (i := 7) (v := ?v7) rfl (by kernel_rfl) (by kernel_rfl) (by kernel_rfl) (fun _ _ _ h => h) (Or.inl ⟨by rfl, ?h7⟩) (by assumption) ?r7
        case h7 => (intro w hSw; (try dsimp only at hSw); go_simp <;> with_reducible rfl)
        try simp only [Act.put, List.getElem_toArray, List.getElem_cons_zero, List.getElem_cons_succ, List.setIfInBounds_toArray, List.set_cons_zero, List.set_cons_succ]
        refine wpAnyH_take (i := 8) (v := ?v8) rfl (by kernel_rfl) (by kernel_rfl) (by kernel_rfl) (fun _ _ _ h => h) (Or.inl ⟨by rfl, ?h8⟩) (by assumption) ?r8
        case h8 => (intro w hSw; (try dsimp only at hSw); go_simp <;> with_reducible rfl)
        try simp only [Act.put, List.getElem_toArray, List.getElem_cons_zero, List.getElem_cons_succ, List.setIfInBounds_toArray, List.set_cons_zero, List.set_cons_succ]
        refine wpAnyH_take (i := 9) (v := ?v9) rfl (by kernel_rfl) (by kernel_rfl) (by kernel_rfl) (fun _ _ _ h => h) (Or.inl ⟨by rfl, ?h9⟩) (by assumption) ?r9
        case h9 => (intro w hSw; (try dsimp only at hSw); go_simp <;> with_reducible rfl)
        try simp only [Act.put, List.getElem_toArray, List.getElem_cons_zero, List.getElem_cons_succ, List.setIfInBounds_toArray, List.set_cons_zero, List.set_cons_succ]
        refine wpAnyH_done (by kernel_rfl) ?_ _
        refine hK15 _ _ ?_
        gi_wp2_with fail
        rename_i K16 hK16
        refine round_held (S := fun W => W.cell? ⟨s, 0, none⟩ = some (.slice (some ⟨g1, 0, none⟩) n c1) ∧ W.cell? ⟨s + 1, 0, none⟩ = some (.slice (some ⟨g2, 0, none⟩) n c2') ∧ W.cell? ⟨Bx, 1, none⟩ = some (.int .i64 (mi : Int)) ∧ W.cell? ⟨Bx, 2, none⟩ = some (.int .i64 (mk : Int)) ∧ W.cell? ⟨g2, mi, none⟩ = some (.int .i64 dv) ∧ W.cell? ⟨g1, mi * 3, none⟩ = some (.int .u64 v0) ∧ W.cell? ⟨g1, mi * 3 + 1, none⟩ = some (.int .u64 v1) ∧ W.cell? ⟨g1, mi * 3 + 2, none⟩ = some (.int .u64 v2) ∧ W.there g1 (mk * 3) 3 ∧ W.there g2 mk 1) (by kernel_rfl) (by kernel_rfl) (fun ⟨_, _, h⟩ => h) ⟨s0, s1, x1, x2, d1, a0, a1, a2, th1, th2⟩ (fun hHeld => ?_)
        refine wpAnyH_take (i := 0) (v := ?v100) rfl (by kernel_rfl) (by kernel_rfl) (by kernel_rfl) (fun _ _ _ h => h) (Or.inl ⟨by rfl, ?h100⟩) (by assumption) ?r100
        case h100 => (intro w hSw; (try dsimp only at hSw); go_simp <;> with_reducible rfl)
        try simp only [Act.put, List.getElem_toArray, List.getElem_cons_zero, List.getElem_cons_succ, List.setIfInBounds_toArray, List.set_cons_zero, List.set_cons_succ]
        refine wpAnyH_take (i := 1) (v := ?v101) rfl (by kernel_rfl) (by kernel_rfl) (by kernel_rfl) (fun _ _ _ h => h) (Or.inl ⟨by rfl, ?h101⟩) (by assumption) ?r101
        case h101 => (intro w hSw; (try dsimp only at hSw); go_simp <;> with_reducible rfl)
        try simp only [Act.put, List.getElem_toArray, List.getElem_cons_zero, List.getElem_cons_succ, List.setIfInBounds_toArray, List.set_cons_zero, List.set_cons_succ]
        refine wpAnyH_take (i := 2) (v := ?v102) rfl (by kernel_rfl) (by kernel_rfl) (by kernel_rfl) (fun _ _ _ h => h) (Or.inl ⟨by rfl, ?h102⟩) (by assumption) ?r102
        case h102 => (intro w hSw; (try dsimp only at hSw); go_simp <;> with_reducible rfl)
        try simp only [Act.put, List.getElem_toArray, List.getElem_cons_zero, List.getElem_cons_succ, List.setIfInBounds_toArray, List.set_cons_zero, List.set_cons_succ]
        refine wpAnyH_take (i := 3) (v := ?v103) rfl (by kernel_rfl) (by kernel_rfl) (by kernel_rfl) (fun _ _ _ h => h) (Or.inl ⟨by rfl, ?h103⟩) (by assumption) ?r103
        case h103 => (intro w hSw; (try dsimp only at hSw); go_simp <;> with_reducible rfl)
        try simp only [Act.put, List.getElem_toArray, List.getElem_cons_zero, List.getElem_cons_succ, List.setIfInBounds_toArray, List.set_cons_zero, List.set_cons_succ]
        refine wpAnyH_take (i := 4) (v := ?v104) rfl (by kernel_rfl) (by kernel_rfl) (by kernel_rfl) (fun _ _ _ h => h) (Or.inl ⟨by rfl, ?h104⟩) (by assumption) ?r104
        case h104 => (intro w hSw; (try dsimp only at hSw); go_simp <;> with_reducible rfl)
        try simp only [Act.put, List.getElem_toArray, List.getElem_cons_zero, List.getElem_cons_succ, List.setIfInBounds_toArray, List.set_cons_zero, List.set_cons_succ]
        refine wpAnyH_take (i := 5) (v := ?v105) rfl (by kernel_rfl) (by kernel_rfl) (by kernel_rfl) (fun _ _ _ h => h) (Or.inl ⟨by rfl, ?h105⟩) (by assumption) ?r105
        case h105 => (intro w hSw; (try dsimp only at hSw); go_simp <;> with_reducible rfl)
        try simp only [Act.put, List.getElem_toArray, List.getElem_cons_zero, List.getElem_cons_succ, List.setIfInBounds_toArray, List.set_cons_zero, List.set_cons_succ]
        refine wpAnyH_take (i := 6) (v := ?v106) rfl (by kernel_rfl) (by kernel_rfl) (by kernel_rfl) (fun _ _ _ h => h) (Or.inl ⟨by rfl, ?h106⟩) (by assumption) ?r106
        case h106 => (intro w hSw; (try dsimp only at hSw); go_simp <;> with_reducible rfl)
        try simp only [Act.put, List.getElem_toArray, List.getElem_cons_zero, List.getElem_cons_succ, List.setIfInBounds_toArray, List.set_cons_zero, List.set_cons_succ]
        refine wpAnyH_take (i := 7) (v := ?v107) rfl (by kernel_rfl) (by kernel_rfl) (by kernel_rfl) (fun _ _ _ h => h) (Or.inl ⟨by rfl, ?h107⟩) (by assumption) ?r107
        case h107 => (intro w hSw; (try dsimp only at hSw); go_simp <;> with_reducible rfl)
        try simp only [Act.put, List.getElem_toArray, List.getElem_cons_zero, List.getElem_cons_succ, List.setIfInBounds_toArray, List.set_cons_zero, List.set_cons_succ]
        refine wpAnyH_take (i := 8) (v := ?v108) rfl (by kernel_rfl) (by kernel_rfl) (by kernel_rfl) (fun _ _ _ h => h) (Or.inl ⟨by rfl, ?h108⟩) (by assumption) ?r108
        case h108 => (intro w hSw; (try dsimp only at hSw); go_simp <;> with_reducible rfl)
        try simp only [Act.put, List.getElem_toArray, List.getElem_cons_zero, List.getElem_cons_succ, List.setIfInBounds_toArray, List.set_cons_zero, List.set_cons_succ]
        refine wpAnyH_take (i := 9) (v := ?v109) rfl (by kernel_rfl) (by kernel_rfl) (by kernel_rfl) (fun _ _ _ h => h) (Or.inl ⟨by rfl, ?h109⟩) (by assumption) ?r109
        case h109 => (intro w hSw; (try dsimp only at hSw); go_simp <;> with_reducible rfl)
        try simp only [Act.put, List.getElem_toArray, List.getElem_cons_zero, List.getElem_cons_succ, List.setIfInBounds_toArray, List.set_cons_zero, List.set_cons_succ]
        refine wpAnyH_take (i := 10) (v := ?v110) rfl (by kernel_rfl) (by kernel_rfl) (by kernel_rfl) (fun _ _ _ h => h) (Or.inl ⟨by rfl, ?h110⟩) (by assumption) ?r110
        case h110 => (intro w hSw; (try dsimp only at hSw); go_simp <;> with_reducible rfl)
        try simp only [Act.put, List.getElem_toArray, List.getElem_cons_zero, List.getElem_cons_succ, List.setIfInBounds_toArray, List.set_cons_zero, List.set_cons_succ]
        refine wpAnyH_take (i := 11) (v := ?v111) rfl (by kernel_rfl) (by kernel_rfl) (by kernel_rfl) (fun _ _ _ h => h) (Or.inl ⟨by rfl, ?h111⟩) (by assumption) ?r111
        case h111 => (intro w hSw; (try dsimp only at hSw); go_simp <;> with_reducible rfl)
        try simp only [Act.put, List.getElem_toArray, List.getElem_cons_zero, List.getElem_cons_succ, List.setIfInBounds_toArray, List.set_cons_zero, List.set_cons_succ]
        refine wpAnyH_take (i := 12) (v := ?v112) rfl (by kernel_rfl) (by kernel_rfl) (by kernel_rfl) (fun _ _ _ h => h) (Or.inl ⟨by rfl, ?h112⟩) (by assumption) ?r112
        case h112 => (intro w hSw; (try dsimp only at hSw); go_simp <;> with_reducible rfl)
        try simp only [Act.put, List.getElem_toArray, List.getElem_cons_zero, List.getElem_cons_succ, List.setIfInBounds_toArray, List.set_cons_zero, List.set_cons_succ]
        refine wpAnyH_take (i := 13) (v := ?v113) rfl (by kernel_rfl) (by kernel_rfl) (by kernel_rfl) (fun _ _ _ h => h) (Or.inl ⟨by rfl, ?h113⟩) (by assumption) ?r113
        case h113 => (intro w hSw; (try dsimp only at hSw); go_simp <;> with_reducible rfl)
        try simp only [Act.put, List.getElem_toArray, List.getElem_cons_zero, List.getElem_cons_succ, List.setIfInBounds_toArray, List.set_cons_zero, List.set_cons_succ]
        refine wpAnyH_take (i := 14) (v := ?v114) rfl (by kernel_rfl) (by kernel_rfl) (by kernel_rfl) (fun _ _ _ h => h) (Or.inl ⟨by rfl, ?h114⟩) (by assumption) ?r114
        case h114 => (intro w hSw; (try dsimp only at hSw); go_simp <;> with_reducible rfl)
        try simp only [Act.put, List.getElem_toArray, List.getElem_cons_zero, List.getElem_cons_succ, List.setIfInBounds_toArray, List.set_cons_zero, List.set_cons_succ]
        refine wpAnyH_take (i := 15) (v := ?v115) rfl (by kernel_rfl) (by kernel_rfl) (by kernel_rfl) (fun _ _ _ h => h) (Or.inl ⟨by rfl, ?h115⟩) (by assumption) ?r115
        case h115 => (intro w hSw; (try dsimp only at hSw); go_simp <;> with_reducible rfl)
        try simp only [Act.put, List.getElem_toArray, List.getElem_cons_zero, List.getElem_cons_succ, List.setIfInBounds_toArray, List.set_cons_zero, List.set_cons_succ]
        refine wpAnyH_take (i := 16) (v := ?v116) rfl (by kernel_rfl) (by kernel_rfl) (by kernel_rfl) (fun _ _ _ h => h) (Or.inl ⟨by rfl, ?h116⟩) (by assumption) ?r116
        case h116 => (intro w hSw; (try dsimp only at hSw); go_simp <;> with_reducible rfl)
        try simp only [Act.put, List.getElem_toArray, List.getElem_cons_zero, List.getElem_cons_succ, List.setIfInBounds_toArray, List.set_cons_zero, List.set_cons_succ]
        refine wpAnyH_ready (rs := [17]) (by kernel_rfl) (by simp) ?_
        refine AllReadyH.cons rfl (fun K hK => ?s117) ?m117
        case s117 =>
          refine wp_store_mid 41 _ _ rfl g1 (mk * 3) #[.int .u64 v0, .int .u64 v1, .int .u64 v2] rfl rfl hHeld.2.2.2.2.2.2.2.2.1 Try.infoSl3 (by simp [Value.oneCell']) ?_
          refine hK.out _ _ ?_ (fun hHeld => ?_)
          · first | exact ApS.put1 hHeld NE.out hki _ _ _ | go_keep
          clear hK K
          try simp only [Act.put, List.getElem_toArray, List.getElem_cons_zero, List.getElem_cons_succ, List.setIfInBounds_toArray, List.set_cons_zero, List.set_cons_succ]
          refine wpAnyH_take (i := 18) (v := ?v118) rfl (by kernel_rfl) (by kernel_rfl) (by kernel_rfl) (fun _ _ _ h => h) (Or.inl ⟨by rfl, ?h118⟩) (by assumption) ?r118
          case h118 => (intro w hSw; (try dsimp only at hSw); go_simp <;> with_reducible rfl)
          try simp only [Act.put, List.getElem_toArray, List.getElem_cons_zero, List.getElem_cons_succ, List.setIfInBounds_toArray, List.set_cons_zero, List.set_cons_succ]
          refine wpAnyH_ready (rs := [19]) (by kernel_rfl) (by simp) ?_
          refine AllReadyH.cons rfl (fun K hK => ?s119) ?m119
          case s119 =>
            obtain ⟨yy, hyy⟩ := Option.isSome_iff_exists.1 (hHeld.2.2.2.2.2.2.2.2.2 0 (by decide)).1
            have hff := (hHeld.2.2.2.2.2.2.2.2.2 0 (by decide)).2
            simp only [Nat.add_zero] at hyy hff
            go_simp
            refine hK.out _ _ ?_ (fun hHeld => ?_)
            · first | exact ApS.put2 hHeld NE.out hki _ | go_keep
            clear hK K
            try simp only [Act.put, List.getElem_toArray, List.getElem_cons_zero, List.getElem_cons_succ, List.setIfInBounds_toArray, List.set_cons_zero, List.set_cons_succ]
            refine wpAnyH_done (by kernel_rfl) ?_ _
            refine hK16 _ _ ?_
            gi_wp2_with fail
            obtain ⟨W3, hW3⟩ : ∃ W3, ((W.drew.drew.setCells g1 (mk * 3) [.int .u64 v0, .int .u64 v1, .int .u64 v2]).setCell ⟨g2, mk, none⟩ (.int .i64 dv)) = W3 := ⟨_, rfl⟩
            have HI3 : Hid (ApI wr s g1 c1 g2 c2' n (A1.set mk (sl A1 mi)) (D1.set mk dn) W3 ∧ KeepsOthers W W3) := Lib.hid (by
              obtain ⟨p1, p2⟩ := ApI.put1 HI.out.drew.drew NE.out.1 NE.out.2.2.1 (by have := HG.out; omega) NE.out.2.2.2.2.2.2 HG.out.1 mk (sl A1 mi)
              obtain ⟨p3, p4⟩ := ApI.put2 p1 NE.out.2.1 NE.out.2.2.2.1 (by have := HG.out; omega) NE.out.2.2.2.2.2.2 HG.out.2.2.1 mk dn
              rw [HV.out.1, HV.out.2.1, HV.out.2.2, HDV.out, hW3] at p3 p4
              rw [HV.out.1, HV.out.2.1, HV.out.2.2] at p2
              exact ⟨p3, (((KeepsOthers.drew _).trans (KeepsOthers.drew _)).trans p2).trans p4⟩)
            have HT0 : Hid (ApT s g1 c1 g2 c2' n Bx mi W3) := Lib.hid (by
              rw [← hW3]
              exact ⟨hHeld.1, hHeld.2.1, hHeld.2.2.1, by rw [hW3]; exact own_there HI3.out.1.2.2.1 (mi * 3) 3 (by omega), by rw [hW3]; exact own_there HI3.out.1.2.2.2.1 mi 1 (by omega)⟩)
            rw [hW3]
            clear hW3 hHeld s0 s1 x0 x1 x2 d1 a0 a1 a2 th1 th2
            refine round_held (S := fun W => W.cell? ⟨s, 0, none⟩ = some (.slice (some ⟨g1, 0, none⟩) n c1) ∧ W.cell? ⟨s + 1, 0, none⟩ = some (.slice (some ⟨g2, 0, none⟩) n c2') ∧ W.cell? ⟨Bx, 1, none⟩ = some (.int .i64 (mi : Int)) ∧ W.there g1 (mi * 3) 3 ∧ W.there g2 mi 1) (by kernel_rfl) (by kernel_rfl) (fun ⟨_, _, h⟩ => h) HT0.out (fun hHeld => ?_)
            refine wpAnyH_take (i := 0) (v := ?v300) rfl (by kernel_rfl) (by kernel_rfl) (by kernel_rfl) (fun _ _ _ h => h) (Or.inl ⟨by rfl, ?h300⟩) (by assumption) ?r300
            case h300 => (intro w hSw; (try dsimp only at hSw); go_simp <;> with_reducible rfl)
            try simp only [Act.put, List.getElem_toArray, List.getElem_cons_zero, List.getElem_cons_succ, List.setIfInBounds_toArray, List.set_cons_zero, List.set_cons_succ]
            refine wpAnyH_take (i := 1) (v := ?v301) rfl (by kernel_rfl) (by kernel_rfl) (by kernel_rfl) (fun _ _ _ h => h) (Or.inl ⟨by rfl, ?h301⟩) (by assumption) ?r301
            case h301 => (intro w hSw; (try dsimp only at hSw); go_simp <;> with_reducible rfl)
            try simp only [Act.put, List.getElem_toArray, List.getElem_cons_zero, List.getElem_cons_succ, List.setIfInBounds_toArray, List.set_cons_zero, List.set_cons_succ]
            refine wpAnyH_take (i := 2) (v := ?v302) rfl (by kernel_rfl) (by kernel_rfl) (by kernel_rfl) (fun _ _ _ h => h) (Or.inl ⟨by rfl, ?h302⟩) (by assumption) ?r302
            case h302 => (intro w hSw; (try dsimp only at hSw); go_simp <;> with_reducible rfl)
            try simp only [Act.put, List.getElem_toArray, List.getElem_cons_zero, List.getElem_cons_succ, List.setIfInBounds_toArray, List.set_cons_zero, List.set_cons_succ]
            refine wpAnyH_take (i := 3) (v := ?v303) rfl (by kernel_rfl) (by kernel_rfl) (by kernel_rfl) (fun _ _ _ h => h) (Or.inl ⟨by rfl, ?h303⟩) (by assumption) ?r303
            case h303 => (intro w hSw; (try dsimp only at hSw); go_simp <;> with_reducible rfl)
            try simp only [Act.put, List.getElem_toArray, List.getElem_cons_zero, List.getElem_cons_succ, List.setIfInBounds_toArray, List.set_cons_zero, List.set_cons_succ]
            refine wpAnyH_take (i := 4) (v := ?v304) rfl (by kernel_rfl) (by kernel_rfl) (by kernel_rfl) (fun _ _ _ h => h) (Or.inl ⟨by rfl, ?h304⟩) (by assumption) ?r304
            case h304 => (intro w hSw; (try dsimp only at hSw); go_simp <;> with_reducible rfl)
            try simp only [Act.put, List.getElem_toArray, List.getElem_cons_zero, List.getElem_cons_succ, List.setIfInBounds_toArray, List.set_cons_zero, List.set_cons_succ]
            refine wpAnyH_take (i := 5) (v := ?v305) rfl (by kernel_rfl) (by kernel_rfl) (by kernel_rfl) (fun _ _ _ h => h) (Or.inl ⟨by rfl, ?h305⟩) (by assumption) ?r305
            case h305 => (intro w hSw; (try dsimp only at hSw); go_simp <;> with_reducible rfl)
            try simp only [Act.put, List.getElem_toArray, List.getElem_cons_zero, List.getElem_cons_succ, List.setIfInBounds_toArray, List.set_cons_zero, List.set_cons_succ]
            refine wpAnyH_take (i := 6) (v := ?v306) rfl (by kernel_rfl) (by kernel_rfl) (by kernel_rfl) (fun _ _ _ h => h) (Or.inl ⟨by rfl, ?h306⟩) (by assumption) ?r306
            case h306 => (intro w hSw; (try dsimp only at hSw); go_simp <;> with_reducible rfl)
            try simp only [Act.put, List.getElem_toArray, List.getElem_cons_zero, List.getElem_cons_succ, List.setIfInBounds_toArray, List.set_cons_zero, List.set_cons_succ]
            refine wpAnyH_take (i := 7) (v := ?v307) rfl (by kernel_rfl) (by kernel_rfl) (by kernel_rfl) (fun _ _ _ h => h) (Or.inl ⟨by rfl, ?h307⟩) (by assumption) ?r307
            case h307 => (intro w hSw; (try dsimp only at hSw); go_simp <;> with_reducible rfl)
            try simp only [Act.put, List.getElem_toArray, List.getElem_cons_zero, List.getElem_cons_succ, List.setIfInBounds_toArray, List.set_cons_zero, List.set_cons_succ]
            refine wpAnyH_ready (rs := [8]) (by kernel_rfl) (by simp) ?_
            refine AllReadyH.cons rfl (fun K hK => ?s308) ?m308
            case s308 =>
              refine wp_store_mid 41 _ _ rfl g1 (mi * 3) #[.int .u64 0, .int .u64 0, .int .u64 0] rfl rfl hHeld.2.2.2.1 Try.infoSl3 (by simp [Value.oneCell']) ?_
              refine hK.out _ _ ?_ (fun hHeld => ?_)
              · first | exact ApT.put1 hHeld NE.out _ _ _ | go_keep
              clear hK K
              try simp only [Act.put, List.getElem_toArray, List.getElem_cons_zero, List.getElem_cons_succ, List.setIfInBounds_toArray, List.set_cons_zero, List.set_cons_succ]
              refine wpAnyH_take (i := 9) (v := ?v309) rfl (by kernel_rfl) (by kernel_rfl) (by kernel_rfl) (fun _ _ _ h => h) (Or.inl ⟨by rfl, ?h309⟩) (by assumption) ?r309
              case h309 => (intro w hSw; (try dsimp only at hSw); go_simp <;> with_reducible rfl)
              try simp only [Act.put, List.getElem_toArray, List.getElem_cons_zero, List.getElem_cons_succ, List.setIfInBounds_toArray, List.set_cons_zero, List.set_cons_succ]
              refine wpAnyH_ready (rs := [10]) (by kernel_rfl) (by simp) ?_
              refine AllReadyH.cons rfl (fun K hK => ?s310) ?m310
              case s310 =>
                obtain ⟨yy, hyy⟩ := Option.isSome_iff_exists.1 (hHeld.2.2.2.2 0 (by decide)).1
                have hff := (hHeld.2.2.2.2 0 (by decide)).2
                simp only [Nat.add_zero] at hyy hff
                go_simp
                refine hK.out _ _ ?_ (fun hHeld => ?_)
                · first | exact ApT.put2 hHeld NE.out _ | go_keep
                clear hK K
                try simp only [Act.put, List.getElem_toArray, List.getElem_cons_zero, List.getElem_cons_succ, List.setIfInBounds_toArray, List.set_cons_zero, List.set_cons_succ]
                refine wpAnyH_done (by kernel_rfl) ?_ _
                have HI4 : ApI wr s g1 c1 g2 c2' n (apM (A1, D1) (mj, mi, mk)).1 (apM (A1, D1) (mj, mi, mk)).2 ((W3.drew.setCells g1 (mi * 3) [.int .u64 0, .int .u64 0, .int .u64 0]).setCell ⟨g2, mi, none⟩ (.int .i64 0)) ∧ KeepsOthers W3 ((W3.drew.setCells g1 (mi * 3) [.int .u64 0, .int .u64 0, .int .u64 0]).setCell ⟨g2, mi, none⟩ (.int .i64 0)) := by
                  obtain ⟨p1, p2⟩ := ApI.put1 HI3.out.1.drew NE.out.1 NE.out.2.2.1 (by have := HG.out; omega) NE.out.2.2.2.2.2.2 HG.out.1 mi (0#64, 0#64, 0#64)
                  obtain ⟨p3, p4⟩ := ApI.put2 p1 NE.out.2.1 NE.out.2.2.2.1 (by have := HG.out; omega) NE.out.2.2.2.2.2.2 HG.out.2.2.1 mi 0
                  rw [HX.out]
                  exact ⟨p3, ((KeepsOthers.drew _).trans p2).trans p4⟩
                refine ⟨(HI3.out.2.trans HI4.2).from _, fun x hx => ?_, ?_⟩
                · simp at hx; subst hx; exact HI4.1.2.2.2.2.2.trans HI.out.2.2.2.2.2.symm
                · (try dsimp only); rw [HAP.out]; exact HI4.1
              exact AllReadyH.nil
            exact AllReadyH.nil
          exact AllReadyH.nil
        exact AllReadyH.nil
      case hdone =>
        rintro Dd xs W hD hxs hi hK
        have hxe : ApI wr s g1 c1 g2 c2' n (apL A D (moves n)).1 (apL A D (moves n)).2 W := by rw [← hxs]; exact hi
        have HI : Hid (ApI wr s g1 c1 g2 c2' n (apL A D (moves n)).1 (apL A D (moves n)).2 (W.putObj Dd (.deferred none))) := Lib.hid (apI_own (w := wr) (B := wr.heap.size) (Nat.le_refl _) (fun _ : List {x // x ∈ moves n} => apL A D (moves n)) xs W _ (some Dd) hxe (grownBy_putObj' W Dd (.deferred none)) (fun r e => by cases e; exact ⟨by have := HS.out; have := HG.out; omega, _, hK, rfl⟩))
        have c0 := hxe.1.cell 0
        simp only [List.getElem?_toArray, List.getElem?_cons_zero] at c0
        have HK := Lib.hid hK
        clear hxs hi hK hxe
        gi_wp2_with fail
        refine ⟨by simp, .inl ⟨_, _, rfl, run_takeDeferred HK.out, ?_⟩⟩
        exact ⟨.tuple #[.slice (some ⟨g1, 0, none⟩) n c1, .int .i64 0], by simp [results, Try.f17, go_sem], _, _, rfl, hc1, HI.out.2.2.1, HI.out.2.2.2.2.1⟩
end Go.Proofs.Ytlefjlclhmapaaa
