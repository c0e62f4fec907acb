/- What a contract in company says of a goroutine that is alone. -/
import Derived.Test.YtlgjaefcfnndhaaGreatDoorP21
import Derived.Conc.LoneCalls
import Derived.Test.YtlgjaefcfnndhaaGreatDoorP30
set_option linter.unusedVariables false
set_option linter.unusedSimpArgs false
set_option maxHeartbeats 16000000
set_option maxRecDepth 100000
namespace Go.Pip
open Go.Conc
theorem qg8 {P : Program} {R : World → World → Prop} {D : World → World → Array Event → Prop} {Stop : Goroutine → World → Prop} (hR : ∀ w, R w w) : ∀ (n : Nat) (g : Goroutine) (w : World), Goes P true R D Stop n g w → LoneTo P Stop g w
 | 0, g, w, h => .done (h w (hR w))
 | n + 1, g, w, h => by
  rcases h with h | ⟨hs, h⟩
  ·exact .done (h w (hR w))
  ·obtain ⟨g₁, w₁, es, hgo, _, hg⟩ := goes_elim (h w (hR w))
   exact .step (step_solo_go hs hgo) (qg8 hR n g₁ w₁ hg)
theorem qfn {P : Program} {R : World → World → Prop} {D : World → World → Array Event → Prop} {f : FuncId} {args : Array Value} {n : Nat} {w : World} {Post : Value → World → Prop} (hR : ∀ w, R w w) (T : Terms R D) (hst : ∀ v w w₁, Post v w → R w w₁ → Post v w₁)
  (h : CallsC P true R D f args n w Post) : Calls P f args w fun | .returned v, w' => Post v w' | _, _ => False := by
 obtain ⟨fn, c, hf, hname, hbody, hwp⟩ := h
 refine calls_of_loneTo (fun cs => ?_) (fun _ h => h)
 rw [enter_at _ hf hbody]
 have hstop : ∀ (a' : Act) (w' : World) (todo : List Item), (a'.defers = [] ∧ ∃ v, ResultsC P fn a'.tmps v ∧ Post v w') → ∀ m,
   Goes P true R D (fun g' w' => ∃ e fr, g' = G fr cs ∧ (match e, w' with | .returned v, w' => Post v w' | _, _ => False) ∧ fr.fn = f ∧ fr.leaving P w' e) m (G { (base f).at a' todo with mode := .returning } cs) w' := by
  rintro a' w' todo ⟨hd, v, hr, hp⟩ m
  exact Goes.stop fun w₂ h₂ => ⟨.returned v, _, rfl, hst v w' w₂ hp h₂, rfl, rfl, hd, rfl, fn, hf, (hr w₂).1⟩
 refine qg8 hR (2 + n) _ _ (hwp (base f) [] cs _ 2 rfl (by simp [base]) fun e a' w' q => ?_)
 cases e with
 | normal => exact Goes.step rfl fun w₁ h₁ => by rw [stepG_end]; exact ⟨T.idle _, (hstop a' w' [] q 1).rely T.trans h₁⟩
 | ret => exact fun todo => hstop a' w' todo q 2
 | exit id => exact q.elim
 | goto l => exact q.elim
 | panic ch => exact q.elim
 | outgrown => exact q.elim
end Go.Pip

namespace Go.Proofs.YtlgjaefcfnndhaaGreatDoor
open Go.RowKit Go.Conc Go.Pip
theorem qol {w0 w : World} {aB rB rcap : Nat} (h2a : w0.heap.size < aB) (h2r : w0.heap.size < rB) (har : aB ≠ rB) (haL : aB < w.heap.size) (hrL : rB < w.heap.size) (VI VT VS VF : Value) (W : Nat) (X : List Nat) (at_ : Int) (h : w0.heap.size < w.heap.size) :
  Geo (feK w0 w0.heap.size w.heap.size aB rB rcap VI VT VS VF W X at_ h) w0.heap.size aB rB :=
 ⟨Nat.le_of_lt h2a, Nat.le_of_lt h2r, Nat.le_refl _, haL, hrL, har, by show aB ≠ w0.heap.size; omega, by show rB ≠ w0.heap.size; omega, .inl rfl, .inr rfl, fun x hx => hx.elim (fun e => by omega) (fun e => by omega), rfl⟩
theorem ql6 {P : Program} {f : FuncId} {args : Array Value} {w : World} {Post : Value → World → Prop} {R : Ending → World → Prop} (h : Calls P f args w fun | .returned v, w' => Post v w' | _, _ => False) (hr : ∀ v w', Post v w' → R (.returned v) w') : Calls P f args w R :=
 h.mono fun e w' p => by cases e <;> first | exact hr _ _ p | exact p.elim
theorem q1t {w0 w : World} {aB rB rcap : Nat} (h2a : w0.heap.size < aB) (h2r : w0.heap.size < rB) (har : aB ≠ rB) (VI VT VS VF : Value) (W : Nat) (T S : List Nat) (hW : 1 ≤ W) (hW4 : W ≤ 4) (hT : T.length = 256 * W) (hS : S.length = W)
  (hvt : Rd w0 (fun _ => True) 1 VT T.length (qab T)) (hvs : Rd w0 (fun _ => True) 1 VS S.length (qab S)) (hT64 : ∀ x ∈ T, x < 18446744073709551616) (hS64 : ∀ x ∈ S, x < 18446744073709551616) (b : Nat) (hb : b < 256) (X : List Nat) (at_ : Int) (hXl : X.length = W) (hX64 : ∀ x ∈ X, x < 18446744073709551616)
  (hA : AutW w0 w.heap.size aB rB rcap VI VT VS VF W X at_ w) :
  Calls Tryz.prog 48 #[.pointer (some ⟨aB, 0, none⟩), .int .u8 (b : Int)] w (fun e w' => e = .returned (.tuple #[]) ∧ AutW w0 w.heap.size aB rB rcap VI VT VS VF W (rdTo W T S X b W) (IntKind.i64.wrap (at_ + 1)) w') := by
 have haL := hA.au.lt
 have hrL := hA.row.choose_spec.1.lt
 have g := qol (rcap := rcap) h2a h2r har haL hrL VI VT VS VF W X at_ (by omega)
 obtain ⟨k, hk⟩ := qu0 (main := true) (L := w.heap.size) (rcap := rcap) g VI VT VS VF W T S hW hW4 hT hS hvt hvs hT64 hS64 b hb
 exact ql6 (qfn SuffB.refl qaa (fun v a a1 hp r => ⟨hp.1, hp.2.rely g r⟩) (hk X at_ w hXl hX64 hA)) fun v w' h => ⟨by rw [h.1], h.2⟩
theorem qz5 {w0 w : World} {aB rB rcap : Nat} (h2a : w0.heap.size < aB) (h2r : w0.heap.size < rB) (har : aB ≠ rB) (VT VS VF : Value) (vi : Option Addr) (vic : Nat) (W n : Nat) (F : List Nat) (hW : 1 ≤ W) (hW4 : W ≤ 4) (hn : 1 ≤ n) (hnL : n ≤ 65536) (hFl : F.length = n * W)
  (hvf : Rd w0 (fun _ => True) 1 VF F.length (qab F)) (hF64 : ∀ x ∈ F, x < 18446744073709551616) (X : List Nat) (at_ : Int) (hXl : X.length = W) (hX64 : ∀ x ∈ X, x < 18446744073709551616)
  (hA : AutW w0 w.heap.size aB rB rcap (.slice vi n vic) VT VS VF W X at_ w) :
  Calls Tryz.prog 51 #[.pointer (some ⟨aB, 0, none⟩)] w (fun e w' => ∃ v, e = .returned v ∧ AutW w0 w.heap.size aB rB rcap (.slice vi n vic) VT VS VF W X at_ w' ∧ Rd w' (fun k => w.heap.size ≤ k) 1 v (hitsN F X W n).length (qa8 (hitsN F X W n))) := by
 have haL := hA.au.lt
 have hrL := hA.row.choose_spec.1.lt
 have g := qol (rcap := rcap) h2a h2r har haL hrL (.slice vi n vic) VT VS VF W X at_ (by omega)
 obtain ⟨k, hk⟩ := qu1 (main := true) (rcap := rcap) g (.slice vi n vic) VT VS VF W n F hW hW4 hn hnL hFl ⟨_, _, rfl⟩ hvf hF64
 refine ql6 (qfn SuffB.refl qaa (fun v a a1 hp r => hp.rely g r) (hk X at_ w hXl hX64 (Nat.le_refl _) hA)) fun v w' h => ⟨v, rfl, h.au, ?_⟩
 have e : (qa8 (hitsN F X W n)).length = (hitsN F X W n).length := by simp [qa8]
 have ho := h.own
 rw [e] at ho
 exact Rd.own ho (fun k hk => (ho.lt k hk).1)
def qvl (w : World) (X' : List Nat) (at' er : Int) (e : Ending) (w' : World) : Prop := ∃ u, e = .returned (.tuple #[.agg #[u, .int .i64 at'], .int .i64 er]) ∧ Rd w' (fun k => w.heap.size ≤ k) 1 u X'.length (qab X') ∧ Lies w w'
def IntsR (w : World) (L : List Nat) (er : Int) (e : Ending) (w' : World) : Prop := ∃ u, e = .returned (.tuple #[u, .int .i64 er]) ∧ Rd w' (fun k => w.heap.size ≤ k) 1 u L.length (qa8 L) ∧ Lies w w'
theorem box3 (w : World) (VI VT VS VF XV : Value) (Wd at_ : Int) : ∃ w0, Hid ((((w.alloc (.cells #[VI, .int .i64 Wd, VT, VS, VF] 25)).alloc (.cells #[XV, .int .i64 at_] 27)).alloc (.cells #[.slice none 0 0, .int .i64 0] 27)) = w0) ∧ Hid (Off Nob w w0 ∧ Blk w0 w.heap.size 25 #[VI, .int .i64 Wd, VT, VS, VF] ∧ Blk w0 (w.heap.size + 1) 27 #[XV, .int .i64 at_] ∧ w0.heap.size = w.heap.size + 3 ∧ Blk w0 (w.heap.size + 2) 27 #[.slice none 0 0, .int .i64 0]) ∧ Hid (∀ V, Off Nob w0 V → V.cell? ⟨w.heap.size, 0, none⟩ = some VI ∧ V.cell? ⟨w.heap.size, 1, none⟩ = some (.int .i64 Wd) ∧ V.cell? ⟨w.heap.size, 2, none⟩ = some VT ∧ V.cell? ⟨w.heap.size, 3, none⟩ = some VS ∧ V.cell? ⟨w.heap.size, 4, none⟩ = some VF ∧ V.cell? ⟨w.heap.size + 1, 0, none⟩ = some XV ∧ V.cell? ⟨w.heap.size + 1, 1, none⟩ = some (.int .i64 at_)) := by
 have H : Off Nob w (((w.alloc (.cells #[VI, .int .i64 Wd, VT, VS, VF] 25)).alloc (.cells #[XV, .int .i64 at_] 27)).alloc (.cells #[.slice none 0 0, .int .i64 0] 27)) ∧ Blk (((w.alloc (.cells #[VI, .int .i64 Wd, VT, VS, VF] 25)).alloc (.cells #[XV, .int .i64 at_] 27)).alloc (.cells #[.slice none 0 0, .int .i64 0] 27)) w.heap.size 25 #[VI, .int .i64 Wd, VT, VS, VF] ∧ Blk (((w.alloc (.cells #[VI, .int .i64 Wd, VT, VS, VF] 25)).alloc (.cells #[XV, .int .i64 at_] 27)).alloc (.cells #[.slice none 0 0, .int .i64 0] 27)) (w.heap.size + 1) 27 #[XV, .int .i64 at_] ∧ (((w.alloc (.cells #[VI, .int .i64 Wd, VT, VS, VF] 25)).alloc (.cells #[XV, .int .i64 at_] 27)).alloc (.cells #[.slice none 0 0, .int .i64 0] 27)).heap.size = w.heap.size + 3 ∧ Blk (((w.alloc (.cells #[VI, .int .i64 Wd, VT, VS, VF] 25)).alloc (.cells #[XV, .int .i64 at_] 27)).alloc (.cells #[.slice none 0 0, .int .i64 0] 27)) (w.heap.size + 2) 27 #[.slice none 0 0, .int .i64 0] := ⟨(((Off.refl Nob w).alloc _).alloc _).alloc _, ((Blk.new _ _ _).alloc _).alloc _, by have h := (Blk.new (w.alloc (.cells #[VI, .int .i64 Wd, VT, VS, VF] 25)) 27 #[XV, .int .i64 at_]).alloc (.cells #[.slice none 0 0, .int .i64 0] 27); simpa using h, by simp, by have h := Blk.new ((w.alloc (.cells #[VI, .int .i64 Wd, VT, VS, VF] 25)).alloc (.cells #[XV, .int .i64 at_] 27)) 27 #[.slice none 0 0, .int .i64 0]; simpa using h⟩
 refine ⟨_, hID rfl, hID H, hID fun V ho => ?_⟩
 have h := H.2.1.to (ho.block _ H.2.1.lt id)
 have k := H.2.2.1.to (ho.block _ H.2.2.1.lt id)
 exact ⟨h.cell 0, h.cell 1, h.cell 2, h.cell 3, h.cell 4, k.cell 0, k.cell 1⟩
theorem box2 (w : World) (VI VT VS VF XV : Value) (Wd at_ : Int) : ∃ w0, Hid (((w.alloc (.cells #[VI, .int .i64 Wd, VT, VS, VF] 25)).alloc (.cells #[XV, .int .i64 at_] 27)) = w0) ∧ Hid (Off Nob w w0 ∧ Blk w0 w.heap.size 25 #[VI, .int .i64 Wd, VT, VS, VF] ∧ Blk w0 (w.heap.size + 1) 27 #[XV, .int .i64 at_] ∧ w0.heap.size = w.heap.size + 2) ∧ Hid (∀ V, Off Nob w0 V → V.cell? ⟨w.heap.size, 0, none⟩ = some VI ∧ V.cell? ⟨w.heap.size, 1, none⟩ = some (.int .i64 Wd) ∧ V.cell? ⟨w.heap.size, 2, none⟩ = some VT ∧ V.cell? ⟨w.heap.size, 3, none⟩ = some VS ∧ V.cell? ⟨w.heap.size, 4, none⟩ = some VF ∧ V.cell? ⟨w.heap.size + 1, 0, none⟩ = some XV ∧ V.cell? ⟨w.heap.size + 1, 1, none⟩ = some (.int .i64 at_)) := by
 have H : Off Nob w ((w.alloc (.cells #[VI, .int .i64 Wd, VT, VS, VF] 25)).alloc (.cells #[XV, .int .i64 at_] 27)) ∧ Blk ((w.alloc (.cells #[VI, .int .i64 Wd, VT, VS, VF] 25)).alloc (.cells #[XV, .int .i64 at_] 27)) w.heap.size 25 #[VI, .int .i64 Wd, VT, VS, VF] ∧ Blk ((w.alloc (.cells #[VI, .int .i64 Wd, VT, VS, VF] 25)).alloc (.cells #[XV, .int .i64 at_] 27)) (w.heap.size + 1) 27 #[XV, .int .i64 at_] ∧ ((w.alloc (.cells #[VI, .int .i64 Wd, VT, VS, VF] 25)).alloc (.cells #[XV, .int .i64 at_] 27)).heap.size = w.heap.size + 2 := ⟨((Off.refl Nob w).alloc _).alloc _, (Blk.new _ _ _).alloc _, by have h := Blk.new (w.alloc (.cells #[VI, .int .i64 Wd, VT, VS, VF] 25)) 27 #[XV, .int .i64 at_]; simpa using h, by simp⟩
 refine ⟨_, hID rfl, hID H, hID fun V ho => ?_⟩
 have h := H.2.1.to (ho.block _ H.2.1.lt id)
 have k := H.2.2.1.to (ho.block _ H.2.2.1.lt id)
 exact ⟨h.cell 0, h.cell 1, h.cell 2, h.cell 3, h.cell 4, k.cell 0, k.cell 1⟩
theorem qhy (ids : List Int) (Wd : Int) (T S F X : List Nat) (at_ : Int) (w : World) (VI VT VS VF XV : Value)
  (h0 : shErr ids Wd T S F X at_ = 0) (hat : at_ < 1000000000) (b : Nat) (hb : b < 256) (hX64 : ∀ x ∈ X, x < 18446744073709551616) (hsv : SetV w VI VT VS VF ids Wd T S F) (hZ : TzT w) (hxv : Rd w (fun _ => True) 1 XV X.length (qab X)) :
  Calls Tryz.prog 17 #[.agg #[VI, .int .i64 Wd, VT, VS, VF], .agg #[XV, .int .i64 at_], .int .u8 (b : Int)] w (qvl w (rdTo X.length T S X b X.length) (at_ + 1) 0) := by
 have HB := hID hb
 have HSV := hID hsv
 have HZ := hID hZ
 have HXV := hID hxv
 have HX64 := hID hX64
 have H0 := hID h0
 have HCK := hID (fun (V : World) (oV : Off Nob w V) => qe5 ids Wd T S F X hX64 at_ V VI VT VS VF XV (hsv.keep oV) (qbq hZ oV) (hxv.keepT oV))
 have d0 : (at_ == 1000000000) = false := by rw [beq_eq_false_iff_ne]; omega
 have HAT := hID hat
 clear hat hb
 go_enter Tryz.func17, Tryz.ntmps17
 obtain ⟨w0, HW0, HB0, GC⟩ := box3 w VI VT VS VF XV Wd at_
 clear hsv hZ hxv hX64 h0
 go_wp2_with fail
 rw [HW0.out]
 clear HW0
 obtain ⟨c0, c1, c2, c3, c4, x0, x1⟩ := GC.out _ oRf
 go_wp2_with fail
 refine (HCK.out _ HB0.out.1).mono ?_
 rintro e w1 ⟨rfl, o1⟩
 have O1 := hID o1
 clear o1 c0 c1 c2 c3 c4 x0 x1 HCK
 obtain ⟨c0, c1, c2, c3, c4, x0, x1⟩ := GC.out _ O1.out
 rw [H0.out]
 obtain ⟨hse, hXW, hlow, ha0, ha1⟩ := qe6 H0.out
 obtain ⟨hi1, hi16, _, ⟨Wx, hWx, w1', w4', hlt, hls, hlf, hpl⟩, _⟩ := qcr hse
 obtain rfl : X.length = Wx := by omega
 have HLT := hID hlt
 have HLS := hID hls
 have HLF := hID hlf
 have HWX := hID hXW
 have HI := hID (And.intro hi1 hi16)
 clear hse hlow hlt hls hlf hpl hWx hXW hi1 hi16
 go_wp2_with fail
 refine (n_of X.length w1' (by omega) Wd X rfl at_ w1 VI VT VS VF XV (HXV.out.keepT (HB0.out.1.also O1.out))).mono ?_
 rintro e w2 ⟨aB, rB, cap, cur, rfl, a1, a2, a3, a4, a5, a6, a7⟩
 have O2 := hID a7
 clear a7 c0 c1 c2 c3 c4 x0 x1
 have HA : Hid (AutW w1 w2.heap.size aB rB cap VI VT VS VF X.length X at_ w2) := hID ⟨O2.out.os, O2.out.output, O2.out.size, Nat.le_refl _, fun k hk => O2.out.block k hk id, by rw [HWX.out]; exact a1, cur, a2, a3⟩
 have HG : Hid (w1.heap.size < aB ∧ w1.heap.size < rB ∧ aB ≠ rB) := hID ⟨by omega, by omega, a6⟩
 clear a1 a2 a3 a4 a5 a6
 have OW := hID (HB0.out.1.also O1.out)
 go_wp2_with fail
 refine (q1t HG.out.1 HG.out.2.1 HG.out.2.2 VI VT VS VF X.length T S w1' w4' HLT.out HLS.out (HSV.out.t.keepT OW.out) (HSV.out.s.keepT OW.out) HSV.out.t64 HSV.out.s64 b HB.out X at_ rfl HX64.out HA.out).mono ?_
 rintro e w3 ⟨rfl, hA3⟩
 have HA3 := hID hA3
 clear hA3
 go_wp2_with fail
 refine (qq0 w3 aB _ _ _ _ _ _ _ _ _ HA3.out.au).mono ?_
 rintro e w4 ⟨rfl, o4⟩
 have O4 := hID o4
 have HY : Hid (Blk w4 (w.heap.size + 2) 27 #[.slice none 0 0, .int .i64 0]) := hID (by
  have h1 := HB0.out.2.2.2.2
  have h2 := h1.to (O1.out.block _ h1.lt id)
  have h3 := h2.to (HA3.out.low _ h2.lt)
  exact h3.to (O4.out.block _ h3.lt id))
 have f0 := HY.out.frozen 0
 have f1 := HY.out.frozen 1
 have z0 := HY.out.cell 0
 have z1 := HY.out.cell 1
 clear o4
 have hwr : IntKind.i64.wrap (at_ + 1) = at_ + 1 := by rw [IntKind.wrap_i64]; have := HAT.out; omega
 rw [hwr]
 clear ha0 ha1
 go_wp2_with fail
 have XE := hID ((HY.out.put 0 (.slice (some ⟨rB, 0, none⟩) X.length cap)).put 1 (.int .i64 (at_ + 1)))
 have hs3 := HA3.out.row
 obtain ⟨cur3, hr3, hx3⟩ := hs3
 have LZ : Lies w w4 := ((Lies.of' HB0.out.1).trans (Lies.of' O1.out)).trans ((⟨HA3.out.os, HA3.out.output, HA3.out.size, HA3.out.low⟩ : Lies w1 w3).trans (Lies.of' O4.out))
 have hr4 := (Lies.of' O4.out).blk hr3
 have hsz := OW.out.size
 refine bodyPost_ret (qac rfl _ _ _ _ _ (0, 0) _ rfl XE.out Tryz.underlying27 rfl Tryz.infoSs) rfl ⟨_, rfl, ?_, (LZ.put (by show w.heap.size ≤ w.heap.size + 2; omega) _).put (by show w.heap.size ≤ w.heap.size + 2; omega) _⟩
 have hne : rB ≠ w.heap.size + 2 := by have := HG.out.2.1; have := HB0.out.2.2.2.1; have := O1.out.size; omega
 have hr5 := (hr4.far (p := ⟨w.heap.size + 2, 0, none⟩) hne (.slice (some ⟨rB, 0, none⟩) X.length cap)).far (p := ⟨w.heap.size + 2, 1, none⟩) hne (.int .i64 (at_ + 1))
 refine ⟨_, _, by rw [qdz], by unfold maxLen; rw [qdz]; omega, by simp [qab], fun _ => ⟨rB, 0, rfl, by have := HG.out.2.1; omega, hr5.lt, fun j u hj => ?_⟩⟩
 rw [Nat.zero_add, hr5.cell j]
 simp only [qab, List.getElem?_map, Option.map_eq_some_iff] at hj
 obtain ⟨x, hx, rfl⟩ := hj
 have hj2 : j < (rdTo X.length T S X b X.length).length := by rw [List.getElem?_eq_some_iff] at hx; exact hx.1
 rw [hx3 j (by rw [qdz] at hj2; exact hj2)]
 rw [gDe, hx]
 rfl
theorem qhz (ids : List Int) (Wd : Int) (T S F X : List Nat) (at_ : Int) (w : World) (VI VT VS VF XV : Value)
  (h0 : shErr ids Wd T S F X at_ = 0) (hX64 : ∀ x ∈ X, x < 18446744073709551616) (hsv : SetV w VI VT VS VF ids Wd T S F) (hZ : TzT w) (hxv : Rd w (fun _ => True) 1 XV X.length (qab X)) :
  Calls Tryz.prog 19 #[.agg #[VI, .int .i64 Wd, VT, VS, VF], .agg #[XV, .int .i64 at_]] w (IntsR w (hitsN F X X.length ids.length) 0) := by
 obtain ⟨Ai, ci, rfl, _⟩ := hsv.i.form
 have HSV := hID hsv
 have HZ := hID hZ
 have HXV := hID hxv
 have HX64 := hID hX64
 have H0 := hID h0
 have HCK := hID (fun (V : World) (oV : Off Nob w V) => qe5 ids Wd T S F X hX64 at_ V (.slice Ai ids.length ci) VT VS VF XV (hsv.keep oV) (qbq hZ oV) (hxv.keepT oV))
 go_enter Tryz.func19, Tryz.ntmps19
 obtain ⟨w0, HW0, HB0, GC⟩ := box2 w (.slice Ai ids.length ci) VT VS VF XV Wd at_
 clear hsv hZ hxv hX64 h0
 go_wp2_with fail
 rw [HW0.out]
 clear HW0
 obtain ⟨c0, c1, c2, c3, c4, x0, x1⟩ := GC.out _ oRf
 go_wp2_with fail
 refine (HCK.out _ HB0.out.1).mono ?_
 rintro e w1 ⟨rfl, o1⟩
 have O1 := hID o1
 clear o1 c0 c1 c2 c3 c4 x0 x1 HCK
 obtain ⟨c0, c1, c2, c3, c4, x0, x1⟩ := GC.out _ O1.out
 rw [H0.out]
 obtain ⟨hse, hXW, hlow, ha0, ha1⟩ := qe6 H0.out
 obtain ⟨hi1, hi16, _, ⟨Wx, hWx, w1', w4', hlt, hls, hlf, hpl⟩, _⟩ := qcr hse
 obtain rfl : X.length = Wx := by omega
 have HLT := hID hlt
 have HLS := hID hls
 have HLF := hID hlf
 have HWX := hID hXW
 have HI := hID (And.intro hi1 hi16)
 clear hse hlow hlt hls hlf hpl hWx hXW hi1 hi16
 go_wp2_with fail
 refine (n_of X.length w1' (by omega) Wd X rfl at_ w1 (.slice Ai ids.length ci) VT VS VF XV (HXV.out.keepT (HB0.out.1.also O1.out))).mono ?_
 rintro e w2 ⟨aB, rB, cap, cur, rfl, a1, a2, a3, a4, a5, a6, a7⟩
 have O2 := hID a7
 clear a7 c0 c1 c2 c3 c4 x0 x1
 have HA : Hid (AutW w1 w2.heap.size aB rB cap (.slice Ai ids.length ci) VT VS VF X.length X at_ w2) := hID ⟨O2.out.os, O2.out.output, O2.out.size, Nat.le_refl _, fun k hk => O2.out.block k hk id, by rw [HWX.out]; exact a1, cur, a2, a3⟩
 have HG : Hid (w1.heap.size < aB ∧ w1.heap.size < rB ∧ aB ≠ rB) := hID ⟨by omega, by omega, a6⟩
 clear a1 a2 a3 a4 a5 a6 ha0 ha1
 have OW := hID (HB0.out.1.also O1.out)
 have HI2 := HI.out
 have hi1 := HI2.1
 have hi2 : ids.length ≤ 65536 := by omega
 clear HI2
 go_wp2_with fail
 refine (qz5 HG.out.1 HG.out.2.1 HG.out.2.2 VT VS VF Ai ci X.length ids.length F w1' w4' hi1 hi2 HLF.out (HSV.out.f.keepT OW.out) HSV.out.f64 X at_ rfl HX64.out HA.out).mono ?_
 rintro e w3 ⟨v, rfl, hA3, hrd⟩
 have HA3 := hID hA3
 have HRD := hID hrd
 clear hA3 hrd
 go_wp2_with fail
 go_ret2
 have hs1 := OW.out.size
 have hs2 := O2.out.size
 exact ⟨_, rfl, HRD.out.mono (fun k hk => by omega), (Lies.of' OW.out).trans (⟨HA3.out.os, HA3.out.output, HA3.out.size, HA3.out.low⟩ : Lies w1 w3)⟩
def FeedE (w : World) (er : Int) (e : Ending) (w' : World) : Prop := e = .returned (.tuple #[.agg #[.slice none 0 0, .int .i64 0], .slice none 0 0, .int .i64 er]) ∧ Lies w w'
theorem qte (ids : List Int) (Wd : Int) (T S F X : List Nat) (at_ : Int) (w : World) (VI VT VS VF XV : Value)
  (er : Int) (h0 : shErr ids Wd T S F X at_ = er) (her : er ≠ 0) (bv : Value) (hX64 : ∀ x ∈ X, x < 18446744073709551616) (hsv : SetV w VI VT VS VF ids Wd T S F) (hZ : TzT w) (hxv : Rd w (fun _ => True) 1 XV X.length (qab X)) :
  Calls Tryz.prog 24 #[.agg #[VI, .int .i64 Wd, VT, VS, VF], .agg #[XV, .int .i64 at_], bv] w (FeedE w er) := by
 have HSV := hID hsv
 have HZ := hID hZ
 have HXV := hID hxv
 have HX64 := hID hX64
 have H0 := hID h0
 have HCK := hID (fun (V : World) (oV : Off Nob w V) => qe5 ids Wd T S F X hX64 at_ V VI VT VS VF XV (hsv.keep oV) (qbq hZ oV) (hxv.keepT oV))
 have dz : (er != 0) = true := by rw [bne_iff_ne]; exact her
 clear her
 go_enter Tryz.func24, Tryz.ntmps24
 obtain ⟨w0, HW0, HB0, GC⟩ := box3 w VI VT VS VF XV Wd at_
 clear hsv hZ hxv hX64 h0
 go_wp2_with fail
 rw [HW0.out]
 clear HW0
 obtain ⟨c0, c1, c2, c3, c4, x0, x1⟩ := GC.out _ oRf
 go_wp2_with fail
 refine (HCK.out _ HB0.out.1).mono ?_
 rintro e w1 ⟨rfl, o1⟩
 have O1 := hID o1
 clear o1 c0 c1 c2 c3 c4 x0 x1 HCK
 obtain ⟨c0, c1, c2, c3, c4, x0, x1⟩ := GC.out _ O1.out
 rw [H0.out]
 have HY : Hid (Blk w1 (w.heap.size + 2) 27 #[.slice none 0 0, .int .i64 0]) := hID (HB0.out.2.2.2.2.to (O1.out.block _ HB0.out.2.2.2.2.lt id))
 have f0 := HY.out.frozen 0
 have f1 := HY.out.frozen 1
 have y0 := HY.out.cell 0
 have y1 := HY.out.cell 1
 go_wp2_with fail
 have XE := hID ((HY.out.put 0 (.slice none 0 0)).put 1 (.int .i64 0))
 have hsz := HB0.out.1.size
 have LZ : Lies w w1 := (Lies.of' HB0.out.1).trans (Lies.of' O1.out)
 exact bodyPost_ret (qae rfl _ _ _ _ _ (0, 0) _ rfl XE.out Tryz.underlying27 rfl Tryz.infoSs) rfl ⟨rfl, (LZ.put (by show w.heap.size ≤ w.heap.size + 2; omega) _).put (by show w.heap.size ≤ w.heap.size + 2; omega) _⟩
theorem qp9 (ids : List Int) (Wd : Int) (T S F X : List Nat) (at_ : Int) (w : World) (VI VT VS VF XV : Value)
  (h0 : shErr ids Wd T S F X at_ = 0) (bp : Option Addr) (L bcap : Nat) (hL : 4096 < L) (hX64 : ∀ x ∈ X, x < 18446744073709551616) (hsv : SetV w VI VT VS VF ids Wd T S F) (hZ : TzT w) (hxv : Rd w (fun _ => True) 1 XV X.length (qab X)) :
  Calls Tryz.prog 24 #[.agg #[VI, .int .i64 Wd, VT, VS, VF], .agg #[XV, .int .i64 at_], .slice bp L bcap] w (FeedE w 3) := by
 have HSV := hID hsv
 have HZ := hID hZ
 have HXV := hID hxv
 have HX64 := hID hX64
 have H0 := hID h0
 have HCK := hID (fun (V : World) (oV : Off Nob w V) => qe5 ids Wd T S F X hX64 at_ V VI VT VS VF XV (hsv.keep oV) (qbq hZ oV) (hxv.keepT oV))
 have d1 : decide ((4096 : Int) < (L : Int)) = true := dcT
 clear hL
 go_enter Tryz.func24, Tryz.ntmps24
 obtain ⟨w0, HW0, HB0, GC⟩ := box3 w VI VT VS VF XV Wd at_
 clear hsv hZ hxv hX64 h0
 go_wp2_with fail
 rw [HW0.out]
 clear HW0
 obtain ⟨c0, c1, c2, c3, c4, x0, x1⟩ := GC.out _ oRf
 go_wp2_with fail
 refine (HCK.out _ HB0.out.1).mono ?_
 rintro e w1 ⟨rfl, o1⟩
 have O1 := hID o1
 clear o1 c0 c1 c2 c3 c4 x0 x1 HCK
 obtain ⟨c0, c1, c2, c3, c4, x0, x1⟩ := GC.out _ O1.out
 rw [H0.out]
 have HY : Hid (Blk w1 (w.heap.size + 2) 27 #[.slice none 0 0, .int .i64 0]) := hID (HB0.out.2.2.2.2.to (O1.out.block _ HB0.out.2.2.2.2.lt id))
 have f0 := HY.out.frozen 0
 have f1 := HY.out.frozen 1
 have y0 := HY.out.cell 0
 have y1 := HY.out.cell 1
 go_wp2_with fail
 have XE := hID ((HY.out.put 0 (.slice none 0 0)).put 1 (.int .i64 0))
 have hsz := HB0.out.1.size
 have LZ : Lies w w1 := (Lies.of' HB0.out.1).trans (Lies.of' O1.out)
 exact bodyPost_ret (qae rfl _ _ _ _ _ (0, 0) _ rfl XE.out Tryz.underlying27 rfl Tryz.infoSs) rfl ⟨rfl, (LZ.put (by show w.heap.size ≤ w.heap.size + 2; omega) _).put (by show w.heap.size ≤ w.heap.size + 2; omega) _⟩
theorem qqa (ids : List Int) (Wd : Int) (T S F X : List Nat) (at_ : Int) (w : World) (VI VT VS VF XV : Value)
  (h0 : shErr ids Wd T S F X at_ = 0) (bp : Option Addr) (L bcap : Nat) (hL : L ≤ 4096) (hat : 1000000000 < at_ + (L : Int)) (hX64 : ∀ x ∈ X, x < 18446744073709551616) (hsv : SetV w VI VT VS VF ids Wd T S F) (hZ : TzT w) (hxv : Rd w (fun _ => True) 1 XV X.length (qab X)) :
  Calls Tryz.prog 24 #[.agg #[VI, .int .i64 Wd, VT, VS, VF], .agg #[XV, .int .i64 at_], .slice bp L bcap] w (FeedE w 9) := by
 obtain ⟨_, _, _, ha0, ha1⟩ := qe6 h0
 have HSV := hID hsv
 have HZ := hID hZ
 have HXV := hID hxv
 have HX64 := hID hX64
 have H0 := hID h0
 have HCK := hID (fun (V : World) (oV : Off Nob w V) => qe5 ids Wd T S F X hX64 at_ V VI VT VS VF XV (hsv.keep oV) (qbq hZ oV) (hxv.keepT oV))
 have d1 : decide ((4096 : Int) < (L : Int)) = false := dcF
 have hwr : IntKind.i64.wrap (at_ + (L : Int)) = at_ + (L : Int) := by rw [IntKind.wrap_i64]; omega
 have d2 : decide ((1000000000 : Int) < at_ + (L : Int)) = true := dcT
 clear hL hat ha0 ha1
 go_enter Tryz.func24, Tryz.ntmps24
 obtain ⟨w0, HW0, HB0, GC⟩ := box3 w VI VT VS VF XV Wd at_
 clear hsv hZ hxv hX64 h0
 go_wp2_with fail
 rw [HW0.out]
 clear HW0
 obtain ⟨c0, c1, c2, c3, c4, x0, x1⟩ := GC.out _ oRf
 go_wp2_with fail
 refine (HCK.out _ HB0.out.1).mono ?_
 rintro e w1 ⟨rfl, o1⟩
 have O1 := hID o1
 clear o1 c0 c1 c2 c3 c4 x0 x1 HCK
 obtain ⟨c0, c1, c2, c3, c4, x0, x1⟩ := GC.out _ O1.out
 rw [H0.out]
 have HY : Hid (Blk w1 (w.heap.size + 2) 27 #[.slice none 0 0, .int .i64 0]) := hID (HB0.out.2.2.2.2.to (O1.out.block _ HB0.out.2.2.2.2.lt id))
 have f0 := HY.out.frozen 0
 have f1 := HY.out.frozen 1
 have y0 := HY.out.cell 0
 have y1 := HY.out.cell 1
 go_wp2_with fail
 have XE := hID ((HY.out.put 0 (.slice none 0 0)).put 1 (.int .i64 0))
 have hsz := HB0.out.1.size
 have LZ : Lies w w1 := (Lies.of' HB0.out.1).trans (Lies.of' O1.out)
 exact bodyPost_ret (qae rfl _ _ _ _ _ (0, 0) _ rfl XE.out Tryz.underlying27 rfl Tryz.infoSs) rfl ⟨rfl, (LZ.put (by show w.heap.size ≤ w.heap.size + 2; omega) _).put (by show w.heap.size ≤ w.heap.size + 2; omega) _⟩
end Go.Proofs.YtlgjaefcfnndhaaGreatDoor
