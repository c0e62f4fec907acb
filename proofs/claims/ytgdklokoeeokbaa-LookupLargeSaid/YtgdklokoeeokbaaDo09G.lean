/-
  dragnetlaw09.do over arenas beside blocks that stay.
-/
import Derived.Test.YtgdklokoeeokbaaDo09
namespace Go.Proofs.Ytgdklokoeeokbaa
open Go.RowKit
attribute [local go_sem] bits_and_u64 bits_or_u64 bits_xor_u64 bits_andNot_u64 wrap_u64 bv_add bv_neg bv_sub bv_mul
set_option linter.unusedVariables false
set_option maxRecDepth 100000
/-- Two arenas beside blocks that stay, and a block of the call's own. -/
def PK (w0 wS : World) (G : Nat → Prop) (w : World) (b : Nat) (t : TypeId) (cs : Array Value) (p r : Nat) (C : List (BitVec 64)) (E : List Ev) (C' : List (BitVec 64)) (E' : List Ev) : Prop :=
  PG w0 w (fun k => G k ∨ k = b) p r C E C' E' ∧ Blk w b t cs ∧ Off (Not_ G) wS w
def DoPG (w0 wS : World) (G : Nat → Prop) (p r : Nat) (e : Ending) (w' : World) : Prop := e = .returned (.bool true) ∧ ∃ C E, PG w0 w' G p r C E C E ∧ Off (Not_ G) wS w'
section
variable {w0 wS w w' : World} {G : Nat → Prop} {p r : Nat} {C C' C2 : List (BitVec 64)} {E E' E2 : List Ev} {b : Nat} {t : TypeId} {cs : Array Value}
theorem Off.notG {G H : Nat → Prop} (h : Off (Not_ G) wS w) (o : Off (Not_ H) w w') (hs : ∀ k, G k → H k) : Off (Not_ G) wS w' := h.trans (o.mono (fun k hk hn => .inl (fun hg => hn (hs k hg))))
theorem PK.start (h : PG w0 w G p r C E C' E') (t : TypeId) (cs : Array Value) : PK w0 w G (w.alloc (.cells cs t)) w.heap.size t cs p r C E C' E' :=
  ⟨h.more (Off.alloc (Off.refl _ _) _) (fun k hk => hk.elim .inl (fun e => .inr ⟨by omega, by rw [e]; simp⟩)), Blk.new _ _ _, Off.alloc (Off.refl _ _) _⟩
theorem PK.off (h : PK w0 wS G w b t cs p r C E C' E') (o : Off Nob w w') : PK w0 wS G w' b t cs p r C E C' E' := ⟨h.1.off o, h.2.1.to (o.block _ h.2.1.lt (fun h => h)), h.2.2.also o.ofNob⟩
theorem PK.first (h : PK w0 wS G w b t cs p r C E C' E') {P : Program} {f : FuncId} {xs : Array Value} {e0 : Ending}
    (hc : ∀ w F, Ar w F p C E → Calls P f xs w fun e w' => e = e0 ∧ ArTo w F p C2 E2 w') : Calls P f xs w fun e w' => e = e0 ∧ PK w0 wS G w' b t cs p r C2 E2 C' E' :=
  (h.1.first hc).mono fun e w' ⟨he, h1, o⟩ => ⟨he, h1, h.2.1.keepG o (.inr rfl), h.2.2.notG o (fun _ hk => .inl hk)⟩
theorem PK.second (h : PK w0 wS G w b t cs p r C E C' E') {P : Program} {f : FuncId} {xs : Array Value} {e0 : Ending}
    (hc : ∀ w F, Rf w F r C' E' → Calls P f xs w fun e w' => e = e0 ∧ RfTo w F r C2 E2 w') : Calls P f xs w fun e w' => e = e0 ∧ PK w0 wS G w' b t cs p r C E C2 E2 :=
  (h.1.second hc).mono fun e w' ⟨he, h1, o⟩ => ⟨he, h1, h.2.1.keepG o (.inr rfl), h.2.2.notG o (fun _ hk => .inl hk)⟩
theorem PK.fin (h : PK w0 wS G w b t cs p r C E C E) : ∃ C E, PG w0 w G p r C E C E ∧ Off (Not_ G) wS w := ⟨C, E, h.1.more (Off.refl _ _) (fun _ hk => .inl (.inl hk)), h.2.2⟩
theorem PK.p6 {base n many : Int} {idx m v : BitVec 64} (h : PK w0 wS G w b t (pcs base n many idx m v) p r C E C' E') :
    w.cell? ⟨b, 0, none⟩ = some (.int .i64 base) ∧ w.cell? ⟨b, 1, none⟩ = some (.int .i64 n) ∧ w.cell? ⟨b, 2, none⟩ = some (.int .i64 many) ∧ w.cell? ⟨b, 3, none⟩ = some (.int .u64 (n64 idx)) ∧ w.cell? ⟨b, 4, none⟩ = some (.int .u64 (n64 m)) ∧ w.cell? ⟨b, 5, none⟩ = some (.int .u64 (n64 v)) := pcs_cells h.2.1
theorem PG.put {g : Nat} (h : PG w0 w G p r C E C' E') (hg : G g) (h0 : w0.heap.size ≤ g) (i : Nat) (u : Value) : PG w0 (w.setCell ⟨g, i, none⟩ u) G p r C E C' E' := by
  obtain ⟨F, R, ha, hr, ho, hf, hgr, hd, hG⟩ := h
  have off : Off (fun k => k = g) w (w.setCell ⟨g, i, none⟩ u) := Off.put (F := fun k => k = g) (p := ⟨g, i, none⟩) (Off.refl _ w) (Or.inl (Eq.refl g)) u
  have offN : Off Nob w0 (w.setCell ⟨g, i, none⟩ u) := ho.own off (fun k hk => by rw [hk]; exact h0)
  exact ⟨F, R, ha.keep off (fun k hk hn => (hG g hg).2.1 (by have e : k = g := hn; rw [e] at hk; exact hk)), hr.keep off (fun k hk hn => (hG g hg).2.2 (by have e : k = g := hn; rw [e] at hk; exact hk)), offN, hf, hgr, hd, fun k hk => ⟨Nat.lt_of_lt_of_le (hG k hk).1 off.size, (hG k hk).2⟩⟩
theorem kpget (h : PK w0 wS G w b t cs p r C E C' E') (base n : Int) (idx v : BitVec 64) (c : Int) (hr : geR C E base n idx = ((v, c), (C2, E2))) :
    Calls Try.prog 11 #[.pointer (some ⟨p, 0, none⟩), .int .i64 base, .int .i64 n, .int .u64 (n64 idx)] w fun e w' => e = .returned (.tuple #[.int .u64 (n64 v), .int .i64 c]) ∧ PK w0 wS G w' b t cs p r C2 E2 C' E' :=
  h.first fun w F ha => by have := get_any ha base n idx; rw [hr] at this; exact this
theorem kpfind (h : PK w0 wS G w b t cs p r C E C' E') (base n : Int) (u v : BitVec 64) (c : Int) (hr : fiR C E base n u = ((v, c), (C2, E2))) :
    Calls Try.prog 12 #[.pointer (some ⟨p, 0, none⟩), .int .i64 base, .int .i64 n, .int .u64 (n64 u)] w fun e w' => e = .returned (.tuple #[.int .u64 (n64 v), .int .i64 c]) ∧ PK w0 wS G w' b t cs p r C2 E2 C' E' :=
  h.first fun w F ha => by have := find_any ha base n u; rw [hr] at this; exact this
theorem kpput (h : PK w0 wS G w b t cs p r C E C' E') (base n : Int) (idx m v : BitVec 64) (c : Int) (he : chE C.length E.length base n m = c) (hr : chR (fun _ => v) C E base n idx m = (C2, E2)) :
    Calls Try.prog 15 #[.pointer (some ⟨p, 0, none⟩), .int .i64 base, .int .i64 n, .int .u64 (n64 idx), .int .u64 (n64 m), .int .u64 (n64 v)] w fun e w' => e = .returned (.int .i64 c) ∧ PK w0 wS G w' b t cs p r C2 E2 C' E' :=
  h.first fun w F ha => by have := put_any ha base n idx m v; rw [hr, he] at this; exact this
theorem kwget (h : PK w0 wS G w b t cs p r C E C' E') (base n : Int) (idx v : BitVec 64) (c : Int) (hr : geR C' E' base n idx = ((v, c), (C2, E2))) :
    Calls Try.prog 39 #[.pointer (some ⟨r, 0, none⟩), .int .i64 base, .int .i64 n, .int .u64 (n64 idx)] w fun e w' => e = .returned (.tuple #[.int .u64 (n64 v), .int .i64 c]) ∧ PK w0 wS G w' b t cs p r C E C2 E2 :=
  h.second fun w F ha => by have := rget_any ha base n idx; rw [hr] at this; exact this
theorem kwfind (h : PK w0 wS G w b t cs p r C E C' E') (base n : Int) (u v : BitVec 64) (c : Int) (hr : fiR C' E' base n u = ((v, c), (C2, E2))) :
    Calls Try.prog 43 #[.pointer (some ⟨r, 0, none⟩), .int .i64 base, .int .i64 n, .int .u64 (n64 u)] w fun e w' => e = .returned (.tuple #[.int .u64 (n64 v), .int .i64 c]) ∧ PK w0 wS G w' b t cs p r C E C2 E2 :=
  h.second fun w F ha => by have := rfind_any ha base n u; rw [hr] at this; exact this
theorem kwput (h : PK w0 wS G w b t cs p r C E C' E') (base n : Int) (idx m v : BitVec 64) (c : Int) (he : chE C'.length E'.length base n m = c) (hr : chR (fun _ => v) C' E' base n idx m = (C2, E2)) :
    Calls Try.prog 41 #[.pointer (some ⟨r, 0, none⟩), .int .i64 base, .int .i64 n, .int .u64 (n64 idx), .int .u64 (n64 m), .int .u64 (n64 v)] w fun e w' => e = .returned (.int .i64 c) ∧ PK w0 wS G w' b t cs p r C E C2 E2 :=
  h.second fun w F ha => by have := rput_any ha base n idx m v; rw [hr, he] at this; exact this
theorem kprow (h : PK w0 wS G w b t cs p r C E C' E') (base many n : Int) (idx : BitVec 64) (c : Int) (hc : grE C.length E.length base many n = c) (hz : c ≠ 0) :
    Calls Try.prog 10 #[.pointer (some ⟨p, 0, none⟩), .int .i64 base, .int .i64 many, .int .i64 n, .int .u64 (n64 idx)] w fun e w' => e = .returned (.tuple #[.slice none 0 0, .int .i64 c]) ∧ PK w0 wS G w' b t cs p r C E C' E' :=
  h.first fun w F ha => (getRow_any ha base many n idx).mono fun e w' hh => by
    rcases hh with ⟨_, h2, h3⟩ | ⟨h1, _⟩
    · rw [hc] at h2; exact ⟨h2, h3⟩
    · exact absurd (hc ▸ h1) hz
theorem kwrow (h : PK w0 wS G w b t cs p r C E C' E') (base many n : Int) (idx : BitVec 64) (c : Int) (hc : grE C'.length E'.length base many n = c) (hz : c ≠ 0) :
    Calls Try.prog 40 #[.pointer (some ⟨r, 0, none⟩), .int .i64 base, .int .i64 many, .int .i64 n, .int .u64 (n64 idx)] w fun e w' => e = .returned (.tuple #[.slice none 0 0, .int .i64 c]) ∧ PK w0 wS G w' b t cs p r C E C' E' :=
  h.second fun w F ha => (rgetRow_any ha base many n idx).mono fun e w' hh => by
    rcases hh with ⟨_, h2, h3⟩ | ⟨h1, _⟩
    · rw [hc] at h2; exact ⟨h2, h3⟩
    · exact absurd (hc ▸ h1) hz
end
section
variable {w0 w : World} {G : Nat → Prop} {p r : Nat} {C : List (BitVec 64)} {E : List Ev}
set_option maxHeartbeats 4000000 in
theorem dog_0 (h : PG w0 w G p r C E C E) (z : Int) (h0 : 0 ≤ z) (h1 : z ≤ 255) (hz : z % 6 = 0) (base n many : Int) (idx m v : BitVec 64) :
    Calls Try.prog 20 #[.pointer (some ⟨p, 0, none⟩), .pointer (some ⟨r, 0, none⟩), .int .u8 z, .agg #[.int .i64 base, .int .i64 n, .int .i64 many, .int .u64 (n64 idx), .int .u64 (n64 m), .int .u64 (n64 v)]] w (DoPG w0 w G p r) := by
  have HP := Lib.hid (PK.start h 25 (pcs base n many idx m v))
  have k0 := HP.out.p6
  have hq0 : (z % 6 == 0) = true := by rw [beq_iff_eq]; omega
  clear h hz
  obtain ⟨x, c, C2, E2, hx⟩ : ∃ x c C2 E2, geR C E base n idx = ((x, c), (C2, E2)) := ⟨_, _, _, _, rfl⟩
  have HX := Lib.hid hx
  clear hx
  go_enter Try.func20, Try.ntmps20
  go_wp2_with fail
  refine (kpget HP.out base n idx x c HX.out).mono ?_
  rintro e w1 ⟨rfl, h1⟩
  have k1 := h1.p6
  have H1 := Lib.hid h1
  clear h1 k0
  go_wp2_with fail
  refine (kwget H1.out base n idx x c HX.out).mono ?_
  rintro e w2 ⟨rfl, h2⟩
  have H2 := Lib.hid h2
  clear h2 k1
  go_wp2
  go_ret
  exact ⟨ret_bool (by simp), H2.out.fin⟩
set_option maxHeartbeats 4000000 in
theorem dog_4 (h : PG w0 w G p r C E C E) (z : Int) (h0 : 0 ≤ z) (h1 : z ≤ 255) (hz : z % 6 = 4) (base n many : Int) (idx m v : BitVec 64) :
    Calls Try.prog 20 #[.pointer (some ⟨p, 0, none⟩), .pointer (some ⟨r, 0, none⟩), .int .u8 z, .agg #[.int .i64 base, .int .i64 n, .int .i64 many, .int .u64 (n64 idx), .int .u64 (n64 m), .int .u64 (n64 v)]] w (DoPG w0 w G p r) := by
  have HP := Lib.hid (PK.start h 25 (pcs base n many idx m v))
  have k0 := HP.out.p6
  have hq0 : (z % 6 == 0) = false := by rw [beq_eq_false_iff_ne]; omega
  have hq1 : (z % 6 == 1) = false := by rw [beq_eq_false_iff_ne]; omega
  have hq2 : (z % 6 == 2) = false := by rw [beq_eq_false_iff_ne]; omega
  have hq3 : (z % 6 == 3) = false := by rw [beq_eq_false_iff_ne]; omega
  have hq4 : (z % 6 == 4) = true := by rw [beq_iff_eq]; omega
  clear h hz
  obtain ⟨x, c, C2, E2, hx⟩ : ∃ x c C2 E2, fiR C E base n v = ((x, c), (C2, E2)) := ⟨_, _, _, _, rfl⟩
  have HX := Lib.hid hx
  clear hx
  go_enter Try.func20, Try.ntmps20
  go_wp2_with fail
  refine (kpfind HP.out base n v x c HX.out).mono ?_
  rintro e w1 ⟨rfl, h1⟩
  have k1 := h1.p6
  have H1 := Lib.hid h1
  clear h1 k0
  go_wp2_with fail
  refine (kwfind H1.out base n v x c HX.out).mono ?_
  rintro e w2 ⟨rfl, h2⟩
  have H2 := Lib.hid h2
  clear h2 k1
  go_wp2
  go_ret
  exact ⟨ret_bool (by simp), H2.out.fin⟩
set_option maxHeartbeats 4000000 in
theorem dog_2 (h : PG w0 w G p r C E C E) (z : Int) (h0 : 0 ≤ z) (h1 : z ≤ 255) (hz : z % 6 = 2) (base n many : Int) (idx m v : BitVec 64) :
    Calls Try.prog 20 #[.pointer (some ⟨p, 0, none⟩), .pointer (some ⟨r, 0, none⟩), .int .u8 z, .agg #[.int .i64 base, .int .i64 n, .int .i64 many, .int .u64 (n64 idx), .int .u64 (n64 m), .int .u64 (n64 v)]] w (DoPG w0 w G p r) := by
  have HP := Lib.hid (PK.start h 25 (pcs base n many idx m v))
  have k0 := HP.out.p6
  have hq0 : (z % 6 == 0) = false := by rw [beq_eq_false_iff_ne]; omega
  have hq1 : (z % 6 == 1) = false := by rw [beq_eq_false_iff_ne]; omega
  have hq2 : (z % 6 == 2) = true := by rw [beq_iff_eq]; omega
  clear h hz
  obtain ⟨C2, E2, hx⟩ : ∃ C2 E2, chR (fun _ => v) C E base n idx m = (C2, E2) := ⟨_, _, rfl⟩
  obtain ⟨c, hc⟩ : ∃ c, chE C.length E.length base n m = c := ⟨_, rfl⟩
  have HX := Lib.hid hx
  have HCC := Lib.hid hc
  clear hx hc
  go_enter Try.func20, Try.ntmps20
  go_wp2_with fail
  go_region_held3 (fun w' => w'.cell? ⟨w.heap.size, 0, none⟩ = some (.int .i64 base) ∧ w'.cell? ⟨w.heap.size, 1, none⟩ = some (.int .i64 n) ∧ w'.cell? ⟨w.heap.size, 2, none⟩ = some (.int .i64 many) ∧ w'.cell? ⟨w.heap.size, 3, none⟩ = some (.int .u64 (n64 idx)) ∧ w'.cell? ⟨w.heap.size, 4, none⟩ = some (.int .u64 (n64 m)) ∧ w'.cell? ⟨w.heap.size, 5, none⟩ = some (.int .u64 (n64 v)))
    (first | with_reducible assumption | go_keep)
    (first
      | (go_at_call 15; refine (kpput (HP.out.off (by first | with_reducible exact Off.refl _ _ | with_reducible exact Off.drew (Off.refl _ _) | with_reducible exact Off.drewN (Off.refl _ _) _)) base n idx m v c HCC.out HX.out).mono ?_; rintro e w1 ⟨rfl, h1⟩; have k1 := h1.p6; have H1 := Lib.hid h1; clear h1)
      | (go_at_call 41; refine (kwput (H1.out.off (by first | with_reducible exact Off.refl _ _ | with_reducible exact Off.drew (Off.refl _ _) | with_reducible exact Off.drewN (Off.refl _ _) _)) base n idx m v c HCC.out HX.out).mono ?_; rintro e w2 ⟨rfl, h2⟩; have k2 := h2.p6; have H2 := Lib.hid h2; clear h2))
  go_wp2
  go_ret
  exact ⟨ret_bool (by simp), H2.out.fin⟩
set_option maxHeartbeats 4000000 in
theorem dog_1a (h : PG w0 w G p r C E C E) (z : Int) (h0 : 0 ≤ z) (h1 : z ≤ 255) (hz : z % 6 = 1) (base n many : Int) (idx m v : BitVec 64) (c : Int) (hc : grE C.length E.length base many n = c) (hcz : c ≠ 0) :
    Calls Try.prog 20 #[.pointer (some ⟨p, 0, none⟩), .pointer (some ⟨r, 0, none⟩), .int .u8 z, .agg #[.int .i64 base, .int .i64 n, .int .i64 many, .int .u64 (n64 idx), .int .u64 (n64 m), .int .u64 (n64 v)]] w (DoPG w0 w G p r) := by
  have HP := Lib.hid (PK.start h 25 (pcs base n many idx m v))
  have k0 := HP.out.p6
  have hq0 : (z % 6 == 0) = false := by rw [beq_eq_false_iff_ne]; omega
  have hq1 : (z % 6 == 1) = true := by rw [beq_iff_eq]; omega
  clear h hz
  have HCC := Lib.hid hc
  have HCZ := Lib.hid hcz
  clear hc hcz
  go_enter Try.func20, Try.ntmps20
  go_wp2_with fail
  refine (kprow HP.out base many n idx c HCC.out HCZ.out).mono ?_
  rintro e w1 ⟨rfl, h1⟩
  have k1 := h1.p6
  have H1 := Lib.hid h1
  clear h1 k0
  go_wp2_with fail
  refine (kwrow H1.out base many n idx c HCC.out HCZ.out).mono ?_
  rintro e w2 ⟨rfl, h2⟩
  have H2 := Lib.hid h2
  clear h2 k1
  go_wp2_with fail
  refine (same_nil _).mono ?_
  rintro e w3 ⟨rfl, o3⟩
  have H3 := Lib.hid (H2.out.off o3)
  clear o3
  go_wp2
  go_ret
  exact ⟨ret_bool (by simp), H3.out.fin⟩
set_option maxHeartbeats 4000000 in
theorem dog_1b (h : PG w0 w G p r C E C E) (z : Int) (h0 : 0 ≤ z) (h1 : z ≤ 255) (hz : z % 6 = 1) (base n many : Int) (idx m v : BitVec 64) (hc : grE C.length E.length base many n = 0) :
    Calls Try.prog 20 #[.pointer (some ⟨p, 0, none⟩), .pointer (some ⟨r, 0, none⟩), .int .u8 z, .agg #[.int .i64 base, .int .i64 n, .int .i64 many, .int .u64 (n64 idx), .int .u64 (n64 m), .int .u64 (n64 v)]] w (DoPG w0 w G p r) := by
  have HP := Lib.hid (PK.start h 25 (pcs base n many idx m v))
  have k0 := HP.out.p6
  have hq0 : (z % 6 == 0) = false := by rw [beq_eq_false_iff_ne]; omega
  have hq1 : (z % 6 == 1) = true := by rw [beq_iff_eq]; omega
  clear h hz
  have HCC := Lib.hid hc
  have HN := Lib.hid (grE_zero hc)
  clear hc
  go_enter Try.func20, Try.ntmps20
  go_wp2_with fail
  refine (PG.firstRow HP.out.1 (fun w F ha => (getRow_any ha base many n idx).mono fun e w' hh => by
    rcases hh with ⟨h1, _⟩ | ⟨_, h2⟩
    · exact absurd HCC.out h1
    · exact h2)).mono ?_
  rintro e w1 ⟨g, rfl, h1, hb1, o1⟩
  have K1 := Lib.hid (HP.out.2.1.keepG o1 (.inr rfl))
  have k1 := pcs_cells K1.out
  have H1 := Lib.hid h1
  have B1 := Lib.hid hb1
  have O1 := Lib.hid (HP.out.2.2.notG o1 (fun _ hk => .inl hk))
  clear h1 hb1 o1 k0
  go_wp2_with fail
  refine (PG.secondList H1.out (ret := fun v => .returned (.tuple #[v, .int .i64 0])) (fun w F ha => (rgetRow_any ha base many n idx).mono fun e w' hh => by
    rcases hh with ⟨h1, _⟩ | ⟨_, h2⟩
    · exact absurd HCC.out h1
    · exact h2)).mono ?_
  rintro e w2 ⟨u, H, rfl, h2, r2, o2⟩
  have B2 := Lib.hid (B1.out.keepG o2 (.inr rfl))
  have O2 := Lib.hid (O1.out.notG o2 (fun _ hk => .inl (.inl hk)))
  have H2 := Lib.hid h2
  have R2 := Lib.hid r2
  clear h2 o2 r2 k1
  go_wp2_with fail
  refine Calls.mono (R := BoolNew true w2) (by have := sameCells_any (Rd.row B2.out (by have := HN.out; omega)) R2.out; rwa [show ∀ L, sameB L L = true from fun L => by simp [sameB]] at this) ?_
  rintro e w3 ⟨rfl, o3⟩
  have H3 := Lib.hid (H2.out.off o3)
  have O3 := Lib.hid (O2.out.also o3.ofNob)
  clear o3
  go_wp2
  go_ret
  exact ⟨ret_bool (by simp), _, _, H3.out.more (Off.refl _ _) (fun _ hk => .inl (.inl (.inl (.inl hk)))), O3.out⟩
theorem dog_1 (h : PG w0 w G p r C E C E) (z : Int) (h0 : 0 ≤ z) (h1 : z ≤ 255) (hz : z % 6 = 1) (base n many : Int) (idx m v : BitVec 64) :
    Calls Try.prog 20 #[.pointer (some ⟨p, 0, none⟩), .pointer (some ⟨r, 0, none⟩), .int .u8 z, .agg #[.int .i64 base, .int .i64 n, .int .i64 many, .int .u64 (n64 idx), .int .u64 (n64 m), .int .u64 (n64 v)]] w (DoPG w0 w G p r) := by
  by_cases hc : grE C.length E.length base many n = 0
  · exact dog_1b h z h0 h1 hz base n many idx m v hc
  · exact dog_1a h z h0 h1 hz base n many idx m v _ rfl hc
end

end Go.Proofs.Ytgdklokoeeokbaa
