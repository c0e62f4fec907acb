/-
 A set that came in, opened in whole; slices of bytes that came in.
-/
import Derived.Test.YtlgjaefcfnndhaaGreatDoorP31
import Derived.Test.YtlgjaefcfnndhaaGreatDoorP27
import Derived.Lib.LaidTab
import Derived.Test.YtlgjaefcfnndhaaGreatDoorP30
import Derived.Test.YtlgjaefcfnndhaaGreatDoorP16
set_option linter.unusedVariables false
set_option linter.unusedSimpArgs false
set_option maxHeartbeats 16000000
set_option maxRecDepth 100000
namespace Go.Proofs.YtlgjaefcfnndhaaGreatDoor
section
open Go.ChangeShapes Go.WideShapes Go.ChangeAt Go.RowKit Go.Deep
def qb2 (L : List Nat) : List Value := L.map (fun x : Nat => Value.int .u8 (x : Int))
structure OSet (w : World) (VI VT VS VF : Value) (ids : List Int) (Wd : Int) (T S F : List Nat) : Prop where
 i : Rd w (Old w) 1 VI ids.length (ids.map (Value.int .i64))
 t : Rd w (Old w) 1 VT T.length (qab T)
 s : Rd w (Old w) 1 VS S.length (qab S)
 f : Rd w (Old w) 1 VF F.length (qab F)
 ct : CapOk VT
 cf : CapOk VF
 i64 : ∀ x ∈ ids, -9223372036854775808 ≤ x ∧ x ≤ 9223372036854775807
 w64 : -9223372036854775808 ≤ Wd ∧ Wd ≤ 9223372036854775807
 t64 : ∀ x ∈ T, x < 18446744073709551616
 s64 : ∀ x ∈ S, x < 18446744073709551616
 f64 : ∀ x ∈ F, x < 18446744073709551616
theorem qz3 {k : IntKind} : ∀ zs : List Int, (∀ z ∈ zs, 0 ≤ z) → zs.map (Value.int k) = (zs.map Int.toNat).map (fun x : Nat => Value.int k (x : Int)) := by
 intro zs h
 rw [List.map_map]
 apply List.map_congr_left
 intro z hz
 have := h z hz
 show Value.int k z = Value.int k ((z.toNat : Nat) : Int)
 rw [show ((z.toNat : Nat) : Int) = z by omega]
section
variable {H : Type} {enc : TypeId × Value → H} {P : Program} {w : World} {b0 base : Nat} {spare : Nat → Bool} {held : Bool} {r : Reach} {t : TypeId} {v : Value} {d : DataW H} {ps : List MemPlace}
theorem qtd {fuel : Nat} {e : TypeId} {a : Value} {x : DataW H × List MemPlace} (ht : P.underlying t = some (.slice e)) (h : DataW.trod enc P w base spare held fuel t [a] = some x) : CapOk a := by
 intro A n c hv
 subst hv
 rcases DataW.trod_slice ht h with ⟨hc, _⟩ | ⟨b, len, cap, el, rs, m, _, hc, _, _, hl, _⟩
 ·simp at hc
  omega
 ·simp at hc
  omega
theorem qp8 {k : IntKind} {fuel : Nat} {e : TypeId} {a : Value} {x : DataW H × List MemPlace} (ht : P.underlying t = some (.slice e)) (he : P.underlying e = some (.int k)) (hce : P.cellsOf e = 1) (h : DataW.trod enc P w base spare held fuel t [a] = some x) :
  ∃ zs : List Int, Rd w (Old w) 1 a zs.length (zs.map (Value.int k)) ∧ (∀ z ∈ zs, (Lit.int k z).wf = true) ∧ CapOk a := by
 have hc := qtd ht h
 obtain ⟨v, n, zs, hv, hr, hz⟩ := qvj ht he hce h
 simp at hv
 subst hv
 have hl : zs.length = n := by obtain ⟨_, _, _, _, hl, _⟩ := hr; simpa using hl
 subst hl
 exact ⟨zs, hr, hz, hc⟩
theorem qvk {fuel : Nat} {e : TypeId} {a : Value} {x : DataW H × List MemPlace} (ht : P.underlying t = some (.slice e)) (he : P.underlying e = some (.int .u8)) (hce : P.cellsOf e = 1) (h : DataW.trod enc P w base spare held fuel t [a] = some x) :
  ∃ L : List Nat, Rd w (Old w) 1 a L.length (qb2 L) ∧ (∀ z ∈ L, z < 256) ∧ CapOk a := by
 obtain ⟨zs, hr, hz, hc⟩ := qp8 ht he hce h
 rw [qz3 zs (fun z hm => (bounds_u8 (hz z hm)).1)] at hr
 refine ⟨zs.map Int.toNat, by rw [List.length_map]; exact hr, fun z hm => ?_, hc⟩
 obtain ⟨y, hy, rfl⟩ := List.mem_map.1 hm
 have := bounds_u8 (hz y hy)
 omega
theorem qok {e : TypeId} (ht : P.underlying t = some (.slice e)) (he : P.underlying e = some (.int .u8)) (hce : P.cellsOf e = 1) (hval : Value.okWide P w r b0 t v) (hd : DataW.Trod enc P w base spare held t v d ps) :
  ∃ L : List Nat, Rd w (Old w) 1 v L.length (qb2 L) ∧ (∀ z ∈ L, z < 256) ∧ CapOk v := by
 obtain ⟨a, len, cap, rfl⟩ := okWide_slice ht hval
 obtain ⟨fuel, hf⟩ := hd
 exact qvk ht he hce (by simpa [Value.cells] using hf)
end
end
section
open Go.RowKit Go.Conc Go.Pip Go.Ride
theorem qx1 (w : World) (aB yB : Nat) (VI VW VT VS VF : Value) (A : Option Addr) (n c : Nat) (at_ : Int) (hb : Blk w aB 138 #[VI, VW, VT, VS, VF, .slice A n c, .int .i64 at_]) (hy : Blk w yB 27 #[.slice none 0 0, .int .i64 0]) (out : Value) (v0 v1 v2 v3 v4 v5 v8 v9 v11 v12 v13 v14 v15 v16 v17 v18 v19 v20 v21 v22 v23 v24 v25 v26 v27 v28 v29 v30 v31 v32 v33 v34 v35 v36 v37 v38 v39 v40 v41 v42 v43 v44 v45 v46 v47 v48 v49 v50 : Value)
  (Q : Exit → Act → World → Prop) (hQ : ∀ w', Off (fun j => j = yB) w w' → Blk w' yB 27 #[.slice A n c, .int .i64 at_] → Q .ret ⟨#[v0, v1, v2, v3, v4, v5, .pointer (some ⟨yB, 0, none⟩), out, .int .i64 0, v9, .pointer (some ⟨aB, 0, none⟩), v11, v12, v13, v14, v15, v16, v17, v18, v19, v20, v21, v22, v23, v24, v25, v26, v27, v28, v29, v30, v31, v32, v33, v34, v35, v36, v37, v38, v39, v40, v41, v42, v43, v44, v45, v46, v47, .pointer (some ⟨aB, 0, none⟩), .agg #[.slice A n c, .int .i64 at_], out], []⟩ w') : fR15.wp Tryz.prog Q ⟨#[v0, v1, v2, v3, v4, v5, .pointer (some ⟨yB, 0, none⟩), out, v8, v9, .pointer (some ⟨aB, 0, none⟩), v11, v12, v13, v14, v15, v16, v17, v18, v19, v20, v21, v22, v23, v24, v25, v26, v27, v28, v29, v30, v31, v32, v33, v34, v35, v36, v37, v38, v39, v40, v41, v42, v43, v44, v45, v46, v47, v48, v49, v50], []⟩ w := by
 have HY := hID hy
 have HB := hID hb
 clear hy hb
 simp only [fR15, fTail, fBody, Tryz.f24, Option.getD_some]
 go_wp2_with fail
 refine (qq0 w aB VI VW VT VS VF A n c at_ HB.out).mono ?_
 rintro e w1 ⟨rfl, o1⟩
 have HY1 := hID (HY.out.to (o1.block _ HY.out.lt id))
 have f0 := HY1.out.frozen 0
 have f1 := HY1.out.frozen 1
 have c0 := HY1.out.cell 0
 have c1 := HY1.out.cell 1
 have O1 := hID o1
 clear o1
 go_wp2_with fail
 exact hQ _ (Off.put (F := fun j => j = yB) (Off.put (F := fun j => j = yB) O1.out.ofNob (.inl rfl) _) (.inl rfl) _) ((HY1.out.put 0 (.slice A n c)).put 1 (.int .i64 at_))
theorem qz4 (w : World) (v0 v1 v2 v3 v4 v5 v6 v7 v8 v9 v10 v11 v12 v13 v14 v15 v16 v17 v18 v19 v20 v21 v22 v23 v24 v25 v26 v27 v28 v29 v30 v31 v32 v33 v34 v35 v36 v37 v38 v39 v40 v41 v43 v44 v45 v46 v47 v48 v49 v50 : Value) (Q : Exit → Act → World → Prop) (hQ : Q (.exit 1) ⟨#[v0, v1, v2, v3, v4, v5, v6, v7, v8, v9, v10, v11, v12, v13, v14, v15, v16, v17, v18, v19, v20, v21, v22, v23, v24, v25, v26, v27, v28, v29, v30, v31, v32, v33, v34, v35, v36, v37, v38, v39, v40, v41, .bool false, v43, v44, v45, v46, v47, v48, v49, v50], []⟩ w) : fL2.wp Tryz.prog Q ⟨#[v0, v1, v2, v3, v4, v5, v6, v7, v8, v9, v10, v11, v12, v13, v14, v15, v16, v17, v18, v19, v20, v21, v22, v23, v24, v25, v26, v27, v28, v29, v30, v31, v32, v33, v34, v35, v36, v37, v38, v39, v40, v41, .bool false, v43, v44, v45, v46, v47, v48, v49, v50], []⟩ w := by
 simp only [fL2, fL, fTail, fBody, Tryz.f24, Option.getD_some]
 go_wp2_with fail
 exact hQ
def FeedR (w : World) (W n : Nat) (T S F X B : List Nat) (at_ : Int) (v : Value) (w' : World) : Prop :=
 ∃ u out, v = .tuple #[.agg #[u, .int .i64 (atV B at_)], out, .int .i64 0] ∧ Rd w' (fun k => w.heap.size ≤ k) 1 u W (qab (qat T S W B X)) ∧ Rd w' (fun k => w.heap.size ≤ k) 2 out (qa3 T S F W n B X at_).length (qa9 (qa3 T S F W n B X at_)) ∧ Lies w w'
theorem q1s (ids : List Int) (Wd : Int) (T S F X B : List Nat) (at_ : Int) (w : World) (VI VT VS VF XV BVv : Value)
  (h0 : shErr ids Wd T S F X at_ = 0) (hX64 : ∀ x ∈ X, x < 18446744073709551616) (hsv : SetV w VI VT VS VF ids Wd T S F) (hZ : TzT w) (hxv : Rd w (fun _ => True) 1 XV X.length (qab X))
  (hB256 : ∀ b ∈ B, b < 256) (hb : Rd w (fun _ => True) 1 BVv B.length (qb2 B)) (hL : B.length ≤ 4096) (hat : at_ + (B.length : Int) ≤ 1000000000) :
  CallsG Tryz.prog 24 #[.agg #[VI, .int .i64 Wd, VT, VS, VF], .agg #[XV, .int .i64 at_], BVv] w (FeedR w X.length ids.length T S F X B at_) := by
 obtain ⟨hse, hXW, hlow, ha0, ha1⟩ := qe6 h0
 obtain ⟨AX, cx, rfl, _⟩ := hxv.form
 obtain ⟨bp, bcap, rfl, _, hbc⟩ := hb.form
 obtain ⟨Ai, ci, rfl, _⟩ := hsv.i.form
 obtain ⟨hi1, hi16, _, ⟨Wx, hWx, w1, w4, hlt, hls, hlf, hpl⟩, _⟩ := qcr hse
 obtain rfl : X.length = Wx := by omega
 intro c cs Fin hk
 have hen : Frame.enter Tryz.prog 24 #[.agg #[.slice Ai ids.length ci, .int .i64 Wd, VT, VS, VF], .agg #[.slice AX X.length cx, .int .i64 at_], .slice bp B.length bcap] .normal = (base 24).at ⟨#[.agg #[.slice Ai ids.length ci, .int .i64 Wd, VT, VS, VF], .agg #[.slice AX X.length cx, .int .i64 at_], .slice bp B.length bcap, undef, undef, undef, undef, undef, undef, undef, undef, undef, undef, undef, undef, undef, undef, undef, undef, undef, undef, undef, undef, undef, undef, undef, undef, undef, undef, undef, undef, undef, undef, undef, undef, undef, undef, undef, undef, undef, undef, undef, undef, undef, undef, undef, undef, undef, undef, undef, undef], []⟩ [.code fBody] := by
  have h := enter_at (P := Tryz.prog) #[.agg #[.slice Ai ids.length ci, .int .i64 Wd, VT, VS, VF], .agg #[.slice AX X.length cx, .int .i64 at_], .slice bp B.length bcap] Tryz.func24 (c := fBody) rfl
  simp only [Tryz.ntmps24, List.size_toArray, List.length_cons, List.length_nil, Nat.reduceAdd, Nat.reduceSub, Array.replicate_succ, Array.replicate_zero, List.push_toArray, List.append_toArray, List.nil_append, List.cons_append] at h
  exact h
 rw [hen]
 generalize hbb : base 24 = b
 have hbf : b.fn = 24 := by rw [← hbb]; rfl
 have hbn : b.kind = .normal := by rw [← hbb]; rfl
 have hbk : b.kind ≠ .early := by rw [hbn]; simp
 clear hen hbb
 have hbody : fBody = .seq fR0 (.seq fA1 (.seq fB1 (.seq fR8 (.seq fR9 (.seq (.region 10 fOps10 false) qkh))))) := rfl
 rw [hbody]
 clear hbody
 -- the boxes
 refine Go0.seq mild (Go0.wpL mild fun τ0 d0 => qz0 (Ride.re w τ0 d0) (.slice Ai ids.length ci) VT VS VF (.slice bp B.length bcap) AX X.length cx Wd at_ _ ?_)
 have L0 : Lies w (feW0 (Ride.re w τ0 d0) (.slice Ai ids.length ci) VT VS VF (.slice AX X.length cx) Wd at_) := (((Lies.reI w τ0 d0).alloc _).alloc _).alloc _
 have S0 : Blk (feW0 (Ride.re w τ0 d0) (.slice Ai ids.length ci) VT VS VF (.slice AX X.length cx) Wd at_) w.heap.size 25 #[.slice Ai ids.length ci, .int .i64 Wd, VT, VS, VF] := ((Blk.new _ _ _).alloc _).alloc _
 have X0 : Blk (feW0 (Ride.re w τ0 d0) (.slice Ai ids.length ci) VT VS VF (.slice AX X.length cx) Wd at_) (w.heap.size + 1) 27 #[.slice AX X.length cx, .int .i64 at_] := by
  have h := Blk.new ((Ride.re w τ0 d0).alloc (.cells #[.slice Ai ids.length ci, .int .i64 Wd, VT, VS, VF] 25)) 27 #[.slice AX X.length cx, .int .i64 at_]
  have h2 := h.alloc (.cells #[.slice none 0 0, .int .i64 0] 27)
  simp only [World.size_alloc] at h2
  exact h2
 have Y0 : Blk (feW0 (Ride.re w τ0 d0) (.slice Ai ids.length ci) VT VS VF (.slice AX X.length cx) Wd at_) (w.heap.size + 2) 27 #[.slice none 0 0, .int .i64 0] := by
  have h := Blk.new (((Ride.re w τ0 d0).alloc (.cells #[.slice Ai ids.length ci, .int .i64 Wd, VT, VS, VF] 25)).alloc (.cells #[.slice AX X.length cx, .int .i64 at_] 27)) 27 #[.slice none 0 0, .int .i64 0]
  simp only [World.size_alloc] at h
  exact h
 have hz0 : (Ride.re w τ0 d0).heap.size = w.heap.size := rfl
 rw [hz0]
 clear hz0
 generalize feW0 (Ride.re w τ0 d0) (.slice Ai ids.length ci) VT VS VF (.slice AX X.length cx) Wd at_ = u0 at L0 S0 X0 Y0 ⊢
 show Go0 _ _ _ _
 -- Check
 refine Go0.seq mild (Go0.wpL mild fun τ1 d1 => qz1 ids Wd T S F X hX64 at_ w (Ride.re u0 τ1 d1) (.slice Ai ids.length ci) VT VS VF (.slice AX X.length cx) h0 ((L0.re τ1 d1).set hsv) ((L0.re τ1 d1).tz hZ) ((L0.re τ1 d1).rd hxv) _ _ S0 X0 _ _ _ _ _ _ _ _ _ _ _ _ _ _ _ _ _ _ _ _ _ _ _ _ _ _ _ _ _ _ _ _ _ _ _ _ _ _ _ _ _ _ _ _ _ _ _ _ _ _ (fun u1 o1 => ?_))
 have L1 : Lies u0 u1 := .of o1
 clear o1
 show Go0 _ _ _ _
 -- the lengths
 refine Go0.seq mild (Go0.wpL mild fun τ2 d2 => qz2 B.length bcap bp hL at_ ha0 hat (Ride.re u1 τ2 d2) (.slice AX X.length cx) _ ((L1.re τ2 d2).blk X0) _ _ _ _ _ _ _ _ _ _ _ _ _ _ _ _ _ _ _ _ _ _ _ _ _ _ _ _ _ _ _ _ _ _ _ _ _ _ _ _ _ _ _ _ _ _ _ _ _ _ ?_)
 show Go0 _ _ _ _
 replace L1 := L1.re τ2 d2
 generalize Ride.re u1 τ2 d2 = u2 at L1 ⊢
 have L2 := L0.trans L1
 -- of
 refine Go0.seq mild (Go0.wpL mild fun τ3 d3 => qzy X.length w1 (by omega) Wd X rfl at_ (Ride.re u2 τ3 d3) (.slice Ai ids.length ci) VT VS VF (.slice AX X.length cx) ((L2.re τ3 d3).rd hxv) _ _ ((L1.re τ3 d3).blk S0) ((L1.re τ3 d3).blk X0) _ _ _ _ _ _ _ _ _ _ _ _ _ _ _ _ _ _ _ _ _ _ _ _ _ _ _ _ _ _ _ _ _ _ _ _ _ _ _ _ _ _ _ _ _ _ _ _ _ _ (fun aB rB cap cur u3 a1 a2 a3 a4 a5 a6 a7 => ?_))
 have L3 : Lies u2 u3 := .of a7
 clear a7
 show Go0 _ _ _ _
 -- the channel
 refine Go0.seq mild (Go0.wpL mild fun τ4 d4 => qzz (Ride.re u3 τ4 d4) _ _ _ _ _ _ _ _ _ _ _ _ _ _ _ _ _ _ _ _ _ _ _ _ _ _ _ _ _ _ _ _ _ _ _ _ _ _ _ _ _ _ _ _ _ _ _ _ _ _ _ _ ?_)
 have L4 : Lies u3 ((Ride.re u3 τ4 d4).alloc (.chan 16 #[] false 0 0 false)) := (Lies.reI u3 τ4 d4).alloc _
 have C4 : ((Ride.re u3 τ4 d4).alloc (.chan 16 #[] false 0 0 false)).heap[u3.heap.size]? = some (.chan 16 #[] false 0 0 false) := heap_alloc_new (Ride.re u3 τ4 d4) _
 have Z4 : ((Ride.re u3 τ4 d4).alloc (.chan 16 #[] false 0 0 false)).heap.size = u3.heap.size + 1 := by rw [World.size_alloc]; rfl
 have hz0 : (Ride.re u3 τ4 d4).heap.size = u3.heap.size := rfl
 rw [hz0]
 clear hz0
 generalize (Ride.re u3 τ4 d4).alloc (.chan 16 #[] false 0 0 false) = u4 at L4 C4 Z4 ⊢
 show Go0 _ _ _ _
 -- the operations ahead of go
 refine Go0.seq mild (Go0.region mild ?_)
 have hr10 : List.range fOps10.size = [0, 1, 2, 3] := rfl
 rw [hr10]
 clear hr10
 refine Go0.op mild (w' := u4) (v := .pointer (some ⟨aB, 0, none⟩)) rfl (by rfl) (fun τ d => by simp [fOps10, fBody, Tryz.f24, go_sem]) ?_
 refine Go0.op mild (w' := u4) (v := .slice bp B.length bcap) rfl (by rfl) (fun τ d => by simp [fOps10, fBody, Tryz.f24, go_sem]) ?_
 refine Go0.op mild (w' := u4) (v := .chan (some u3.heap.size)) rfl (by rfl) (fun τ d => by simp [fOps10, fBody, Tryz.f24, go_sem]) ?_
 have L4' := L3.trans L4
 have LU := L2.trans L4'
 have hA : AutW w u4.heap.size aB rB cap (.slice Ai ids.length ci) VT VS VF X.length X at_ u4 :=
  ⟨LU.os, LU.output, LU.size, Nat.le_refl _, LU.block, by rw [hXW]; exact L4.blk a1, cur, L4.blk a2, a3⟩
 have haL := a1.lt
 have hrL := a2.lt
 have a4' : u2.heap.size + 0 ≤ aB := a4
 have a5' : u2.heap.size + 0 ≤ rB := a5
 have hs2 := L2.size
 have hs3 := L3.size
 have hY4 := L4'.blk (L1.blk Y0)
 obtain ⟨hbz, hbz2⟩ : (qb2 B).length = B.length ∧ ∀ j, j < B.length → (qb2 B)[j]? = some (.int .u8 ((B.getD j 0 : Nat) : Int)) := ⟨by simp [qb2], fun j hj => by simp [qb2, List.getElem?_map, gEe hj]⟩
 refine Go0.with_ok fun hok0 => ?_
 refine q1j (w0 := w) (aB := aB) (rB := rB) (rcap := cap) (cB := u3.heap.size) (Low := u4.heap.size) (by omega) rfl (by omega) (by omega) (by omega) (by omega) (by omega) a6 (by omega) (by omega) (n := ids.length) (vi := Ai) (vic := ci) B T S F hB256 (by omega) (fun hB0 => ?_) w1 w4 hi1 (by omega) hlt hls hlf hsv.t hsv.s hsv.f hsv.t64 hsv.s64 hsv.f64 X at_ rfl hX64 hA C4 hbf hbk [] (c :: cs) (.pointer (some ⟨w.heap.size + 2, 0, none⟩)) (.pointer (some ⟨aB, 0, none⟩)) _ _ _ _ _ _ _ _ _ _ _ _ _ _ _ _ _ _ _ _ _ _ _ _ _ _ _ _ _ _ _ _ _ _ _ _ _ _ _ _ _ _ _ _ ?_
 ·obtain ⟨bb, bo, rfl, hlb, hcell⟩ := hbc hB0
  exact ⟨bb, bo, rfl, hlb, fun V hV j hj => by
   rw [← hcell j _ (hbz2 j hj)]
   exact World.cell?_of_block (hV bb hlb)⟩
 rintro g' w5 ⟨v0, v1, v2, v3, v4, v5, v8, v9, v11, v12, v13, v14, v15, v16, v17, v18, v19, v20, v21, v22, v23, v24, v25, v26, v27, v28, v29, v30, v31, v32, v33, v34, v35, v36, v37, v38, v39, v42, v43, v44, v45, v46, v47, v48, v49, v50, out, x, rfl, hF, rfl⟩ hA5
 have hyl := Y0.lt
 have hs1 := L1.size
 have hY5 : Blk w5 (w.heap.size + 2) 27 #[.slice none 0 0, .int .i64 0] := hY4.to (hF.low _ hY4.lt (by show w.heap.size + 2 ≠ u3.heap.size; omega) (by rintro (h | h) <;> omega))
 have L5 : Lies w w5 := ⟨hF.os.trans LU.os, hF.output.trans LU.output, Nat.le_trans LU.size hF.big, fun k hk => (hF.low k (by show k < u4.heap.size; omega) (by show k ≠ u3.heap.size; omega) (by rintro (h | h) <;> omega)).trans (LU.block k hk)⟩
 refine ⟨⟨fun i hi => ?_, hok0.2⟩, ?_⟩
 ·change i ∈ [Item.inRegion qoa [1], .code fL2, .inLoop fL, .inBlock 1, .code fR15] at hi
  simp only [List.mem_cons, List.not_mem_nil, or_false] at hi
  obtain h | h | h | h | h := hi <;> (rw [h]; trivial)
 refine Go0.op mild (w' := w5) (v := .bool false) rfl (by rfl) (fun τ d => by simp [qoa, fL, fTail, fBody, Tryz.f24, go_sem]) ?_
 refine Go0.region_end mild ?_
 refine Go0.wpL mild fun τ5 d5 => qz4 (Ride.re w5 τ5 d5) _ _ _ _ _ _ _ _ _ _ _ _ _ _ _ _ _ _ _ _ _ _ _ _ _ _ _ _ _ _ _ _ _ _ _ _ _ _ _ _ _ _ _ _ _ _ _ _ _ _ _ ⟨_, rfl, ?_⟩
 refine Go0.wpL mild fun τ6 d6 => qx1 (Ride.re w5 τ6 d6) aB (w.heap.size + 2) _ _ _ _ _ _ _ _ _ hA5.au hY5 out _ _ _ _ _ _ _ _ _ _ _ _ _ _ _ _ _ _ _ _ _ _ _ _ _ _ _ _ _ _ _ _ _ _ _ _ _ _ _ _ _ _ _ _ _ _ _ _ _ (fun w6 o6 hY6 => ?_)
 intro todo
 refine Go0.leave mild (fun τ d => ⟨rfl, rfl, hbn, _, (by show Tryz.prog.funcs[b.fn]? = _; rw [hbf]; exact Tryz.func24), qae rfl _ _ _ _ _ (0, 0) _ rfl hY6 Tryz.underlying27 rfl Tryz.infoSs⟩) ?_
 have o6' : Off (fun j => j = w.heap.size + 2) w5 (Ride.re w6 w5.tape 0) := ⟨o6.os, rfl, o6.output, o6.size, o6.block⟩
 have hbig : u4.heap.size ≤ w5.heap.size := hF.big
 refine hk _ _ ⟨_, _, rfl, ?_, ?_, o6.os.trans L5.os, o6.output.trans L5.output, Nat.le_trans L5.size o6.size, fun k hk => (o6.block k (Nat.lt_of_lt_of_le hk L5.size) (by omega)).trans (L5.block k hk)⟩
 ·obtain ⟨cur5, r5, x5⟩ := hA5.row
  have r6 : Blk w6 rB 71 cur5 := r5.to (o6.block rB r5.lt (by omega))
  refine ⟨_, _, rfl, by unfold maxLen; omega, by simp [qab, qer], fun _ => ⟨rB, 0, rfl, by omega, r6.lt, fun j u hj => ?_⟩⟩
  rw [Nat.zero_add, r6.cell j]
  simp only [qab, List.getElem?_map, Option.map_eq_some_iff] at hj
  obtain ⟨x, hx, rfl⟩ := hj
  have hj2 : j < (qat T S X.length B X).length := by rw [List.getElem?_eq_some_iff] at hx; exact hx.1
  rw [x5 j (by rw [qer T S X.length B X rfl] at hj2; exact hj2)]
  rw [gDe, hx]
  rfl
 ·have ho := hF.own
  have h1 : Rd w5 (fun k => u4.heap.size ≤ k) 2 out (qa3 T S F X.length ids.length B X at_).length (qa9 (qa3 T S F X.length ids.length B X at_)) := Rd.own ho (fun k hk => (ho.lt k hk).1)
  have h2 := h1.keep o6' (fun k hk he => by have : u4.heap.size ≤ k := hk; have : k = w.heap.size + 2 := he; omega)
  exact Rd.mono (w := w6) h2 (fun k hk => by have : u4.heap.size ≤ k := hk; omega)
end
end Go.Proofs.YtlgjaefcfnndhaaGreatDoor
