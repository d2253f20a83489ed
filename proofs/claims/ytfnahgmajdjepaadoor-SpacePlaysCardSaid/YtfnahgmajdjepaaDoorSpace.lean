/- The contracts of package space. No condition but that api's errors are what their text says. -/
import Derived.Test.YtfnahgmajdjepaaDoorSee
namespace Go.Proofs.YtfnahgmajdjepaaDoor.Space
open Go.RowKit Go.Proofs.YtfnahgmajdjepaaDoorW.PrintWords Go.Proofs.YtfnahgmajdjepaaDoorW.PrintLast Go.Proofs.YtfnahgmajdjepaaDoorW.PrintMore
open Go.Proofs.YtfnahgmajdjepaaDoor.See
attribute [local go_sem] max2_int min2_int max_two min_two
set_option linter.unusedVariables false
set_option linter.unusedSimpArgs false

/-- Two numbers in a block: what is free, what is kept. -/
structure SP (w : World) (b : Nat) (f k : Int) : Prop where
  c0 : w.cell? ⟨b, 0, none⟩ = some (.int .i64 f)
  c1 : w.cell? ⟨b, 1, none⟩ = some (.int .i64 k)
  f0 : w.frozen? ⟨b, 0, none⟩ = false
  f1 : w.frozen? ⟨b, 1, none⟩ = false

theorem SP.lt {w : World} {b : Nat} {f k : Int} (h : SP w b f k) : b < w.heap.size := World.block_lt_of_cell? _ _ h.c0
theorem SP.drewN {w : World} {b : Nat} {f k : Int} (h : SP w b f k) (n : Nat) : SP (w.drewN n) b f k := ⟨h.c0, h.c1, h.f0, h.f1⟩
theorem SP.drew {w : World} {b : Nat} {f k : Int} (h : SP w b f k) : SP w.drew b f k := ⟨h.c0, h.c1, h.f0, h.f1⟩
theorem SP.below {w w1 : World} {b : Nat} {f k : Int} (h : SP w b f k) (hb : Below w.heap.size w w1) : SP w1 b f k :=
  ⟨(hb.cell (p := ⟨b, 0, none⟩) h.lt).trans h.c0, (hb.cell (p := ⟨b, 1, none⟩) h.lt).trans h.c1, (hb.frozen (p := ⟨b, 0, none⟩) h.lt).trans h.f0, (hb.frozen (p := ⟨b, 1, none⟩) h.lt).trans h.f1⟩
theorem SP.set0 {w : World} {b : Nat} {f k : Int} (h : SP w b f k) (x : Int) : SP (w.setCell ⟨b, 0, none⟩ (.int .i64 x)) b x k :=
  ⟨World.cell?_setCell_same _ _ _ h.c0, (World.cell?_setCell_other _ _ _ _ (by simp)).trans h.c1, (World.frozen?_setCell _ _ _ _).trans h.f0, (World.frozen?_setCell _ _ _ _).trans h.f1⟩
theorem SP.set1 {w : World} {b : Nat} {f k : Int} (h : SP w b f k) (x : Int) : SP (w.setCell ⟨b, 1, none⟩ (.int .i64 x)) b f x :=
  ⟨(World.cell?_setCell_other _ _ _ _ (by simp)).trans h.c0, World.cell?_setCell_same _ _ _ h.c1, (World.frozen?_setCell _ _ _ _).trans h.f0, (World.frozen?_setCell _ _ _ _).trans h.f1⟩

theorem SP.set_other {w : World} {c : Nat} {x y : Int} (h : SP w c x y) {b o : Nat} (hne : c ≠ b) (v : Value) : SP (w.setCell ⟨b, o, none⟩ v) c x y := by
  have e : ∀ i, (⟨b, o, none⟩ : Addr) ≠ ⟨c, i, none⟩ := fun i h => hne (by injection h with h _; exact h.symm)
  exact ⟨(World.cell?_setCell_other _ _ _ _ (e 0)).trans h.c0, (World.cell?_setCell_other _ _ _ _ (e 1)).trans h.c1, (World.frozen?_setCell _ _ _ _).trans h.f0, (World.frozen?_setCell _ _ _ _).trans h.f1⟩

/-- Room, in its bounds. -/
def clampR (r : Int) : Int := if r < 0 then 0 else if 1073741824 < r then 1073741824 else r
theorem clampR_bd (r : Int) : 0 ≤ clampR r ∧ clampR r ≤ 1073741824 := by unfold clampR; split <;> (try split) <;> omega

set_option maxHeartbeats 1000000 in
set_option maxRecDepth 100000 in
theorem new_calls (r : Int) (w : World) :
    Calls Tryd.prog 8 #[.int .i64 r] w fun e w' => e = .returned (.pointer (some ⟨w.heap.size, 0, none⟩)) ∧ SP w' w.heap.size (clampR r) 0 ∧ Below w.heap.size w w' := by
  rcases (show (r < 0 ∧ clampR r = 0) ∨ (0 ≤ r ∧ 1073741824 < r ∧ clampR r = 1073741824) ∨ (0 ≤ r ∧ r ≤ 1073741824 ∧ clampR r = r) by unfold clampR; split <;> (try split) <;> omega) with ⟨h1, h2⟩ | ⟨h1, h2, h3⟩ | ⟨h1, h2, h3⟩
  · rw [h2]; clear h2
    go_enter Tryd.func8, Tryd.ntmps8
    go_wp2
    go_ret
    exact ⟨rfl, ⟨by simp, by simp, by simp, by simp⟩, below_alloc (Below.refl _ _) _⟩
  · rw [h3]; clear h3
    go_enter Tryd.func8, Tryd.ntmps8
    go_wp2
    go_ret
    exact ⟨rfl, ⟨by simp, by simp, by simp, by simp⟩, below_alloc (Below.refl _ _) _⟩
  · rw [h3]; clear h3
    go_enter Tryd.func8, Tryd.ntmps8
    go_wp2
    go_ret
    exact ⟨rfl, ⟨by simp, by simp, by simp, by simp⟩, below_alloc (Below.refl _ _) _⟩

/-- A count in its range. -/
def cntB (n : Int) : Bool := decide (0 ≤ n ∧ n ≤ 1073741824)
theorem cntB_true {n : Int} (h : cntB n = true) : 0 ≤ n ∧ n ≤ 1073741824 := of_decide_eq_true h
theorem cntB_false {n : Int} (h : cntB n = false) : n < 0 ∨ 1073741824 < n := by
  have := of_decide_eq_false h
  omega
theorem cntB_mk {n : Int} (h0 : 0 ≤ n) (h1 : n ≤ 1073741824) : cntB n = true := decide_eq_true ⟨h0, h1⟩
theorem cntB_neg {n : Int} (h0 : n < 0) : cntB n = false := decide_eq_false (by omega)
theorem cntB_big {n : Int} (h0 : 1073741824 < n) : cntB n = false := decide_eq_false (by omega)

set_option maxHeartbeats 1000000 in
set_option maxRecDepth 100000 in
theorem count_calls (n : Int) (w : World) : Calls Tryd.prog 20 #[.int .i64 n] w fun e w' => e = .returned (.bool (cntB n)) ∧ w = w' := by
  rcases (show (n < 0 ∧ cntB n = false) ∨ (0 ≤ n ∧ 1073741824 < n ∧ cntB n = false) ∨ (0 ≤ n ∧ n ≤ 1073741824 ∧ cntB n = true) by
    rcases (by omega : n < 0 ∨ (0 ≤ n ∧ 1073741824 < n) ∨ (0 ≤ n ∧ n ≤ 1073741824)) with h | ⟨h, h2⟩ | ⟨h, h2⟩
    · exact Or.inl ⟨h, cntB_neg h⟩
    · exact Or.inr (Or.inl ⟨h, h2, cntB_big h2⟩)
    · exact Or.inr (Or.inr ⟨h, h2, cntB_mk h h2⟩)) with ⟨h1, h2⟩ | ⟨h1, h2, h3⟩ | ⟨h1, h2, h3⟩
  · rw [h2]; clear h2
    go_enter Tryd.func20, Tryd.ntmps20
    go_wp2
    go_ret
    exact ⟨by simp <;> omega, rfl⟩
  · rw [h3]; clear h3
    go_enter Tryd.func20, Tryd.ntmps20
    go_wp2
    go_ret
    exact ⟨by simp <;> omega, rfl⟩
  · rw [h3]; clear h3
    go_enter Tryd.func20, Tryd.ntmps20
    go_wp2
    go_ret
    exact ⟨by simp <;> omega, rfl⟩

theorem free_calls (b : Nat) (f k : Int) (w : World) (h : SP w b f k) : Calls Tryd.prog 10 #[.pointer (some ⟨b, 0, none⟩)] w fun e w' => e = .returned (.int .i64 f) ∧ w = w' := by
  have h0 := h.c0
  clear h
  go_enter Tryd.func10, Tryd.ntmps10
  go_wp2
  go_ret
  exact ⟨by simp, rfl⟩
theorem kept_calls (b : Nat) (f k : Int) (w : World) (h : SP w b f k) : Calls Tryd.prog 19 #[.pointer (some ⟨b, 0, none⟩)] w fun e w' => e = .returned (.int .i64 k) ∧ w = w' := by
  have h0 := h.c1
  clear h
  go_enter Tryd.func19, Tryd.ntmps19
  go_wp2
  go_ret
  exact ⟨by simp, rfl⟩

/-- One of api's errors, as a value. -/
abbrev errV (x : Addr) : Value := .iface 62 (.pointer (some x))
theorem ev102 (a : Nat → Addr) : EV a (errV (a 1)) 102 := Or.inr ⟨1, by decide, rfl, rfl⟩
theorem ev109 (a : Nat → Addr) : EV a (errV (a 8)) 109 := Or.inr ⟨8, by decide, rfl, rfl⟩
theorem ev0 (a : Nat → Addr) : EV a .nilIface 0 := Or.inl ⟨rfl, rfl⟩

set_option maxHeartbeats 1000000 in
set_option maxRecDepth 100000 in
theorem ask_range (a : Nat → Addr) (b : Nat) (u p : Int) (w : World) (hs : Sents w a) (hc : cntB u = false ∨ cntB p = false) :
    Calls Tryd.prog 17 #[.pointer (some ⟨b, 0, none⟩), .int .i64 u, .int .i64 p] w fun e w' => e = .returned (errV (a 1)) ∧ w = w' := by
  have hg : w.cell? ⟨0, 0, none⟩ = some (errV (a 1)) := hs.cell 1 (by decide)
  generalize a 1 = x at hg ⊢
  clear hs
  cases hcu : cntB u with
  | false =>
    have HU := Aside0.mk hcu
    clear hc hcu
    go_enter Tryd.func17, Tryd.ntmps17
    go_wp2_with fail
    refine (count_calls u _).mono ?_
    rw [HU.out]
    rintro e w' ⟨rfl, rfl⟩
    go_wp2_with fail
    go_ret
    exact ⟨rfl, rfl⟩
  | true =>
    have HU := Aside0.mk hcu
    have HP := Aside0.mk (show cntB p = false by simpa [hcu] using hc)
    clear hc hcu
    go_enter Tryd.func17, Tryd.ntmps17
    go_wp2_with fail
    refine (count_calls u _).mono ?_
    rw [HU.out]
    rintro e w' ⟨rfl, rfl⟩
    go_wp2_with fail
    refine (count_calls p _).mono ?_
    rw [HP.out]
    rintro e w' ⟨rfl, rfl⟩
    go_wp2_with fail
    go_ret
    exact ⟨rfl, rfl⟩

set_option maxHeartbeats 1000000 in
set_option maxRecDepth 100000 in
theorem ask_full (a : Nat → Addr) (b : Nat) (f k u p : Int) (w : World) (h : SP w b f k) (hs : Sents w a) (hu : cntB u = true) (hp : cntB p = true) (hf : f < u + p) :
    Calls Tryd.prog 17 #[.pointer (some ⟨b, 0, none⟩), .int .i64 u, .int .i64 p] w fun e w' => e = .returned (errV (a 8)) ∧ w = w' := by
  have hg : w.cell? ⟨1, 0, none⟩ = some (errV (a 8)) := hs.cell 8 (by decide)
  generalize a 8 = x at hg ⊢
  have hc := h.c0
  clear hs h
  have HU := Aside0.mk hu
  have HP := Aside0.mk hp
  obtain ⟨u0, u1⟩ := cntB_true hu
  obtain ⟨p0, p1⟩ := cntB_true hp
  clear hu hp
  go_enter Tryd.func17, Tryd.ntmps17
  go_wp2_with fail
  refine (count_calls u _).mono ?_
  rw [HU.out]
  rintro e w' ⟨rfl, rfl⟩
  go_wp2_with fail
  refine (count_calls p _).mono ?_
  rw [HP.out]
  rintro e w' ⟨rfl, rfl⟩
  go_wp2_with fail
  go_ret
  exact ⟨rfl, rfl⟩

set_option maxHeartbeats 1000000 in
set_option maxRecDepth 100000 in
theorem ask_ok (b : Nat) (f k u p : Int) (w : World) (h : SP w b f k) (hk0 : 0 ≤ k) (hk1 : k ≤ 1073741824) (hf1 : f ≤ 1073741824) (hu : cntB u = true) (hp : cntB p = true) (hf : u + p ≤ f) (B : Nat) (hB : B ≤ b) :
    Calls Tryd.prog 17 #[.pointer (some ⟨b, 0, none⟩), .int .i64 u, .int .i64 p] w fun e w' => e = .returned .nilIface ∧ SP w' b (f - (u + p)) (k + p) ∧ Below B w w' ∧ ∀ c x y, c ≠ b → SP w c x y → SP w' c x y := by
  have H := Aside0.mk h
  have h0 := h.c0
  have h1 := h.c1
  have h2 := h.f0
  have h3 := h.f1
  clear h
  have HU := Aside0.mk hu
  have HP := Aside0.mk hp
  obtain ⟨u0, u1⟩ := cntB_true hu
  obtain ⟨p0, p1⟩ := cntB_true hp
  clear hu hp
  go_enter Tryd.func17, Tryd.ntmps17
  go_wp2_with fail
  refine (count_calls u _).mono ?_
  rw [HU.out]
  rintro e w' ⟨rfl, rfl⟩
  go_wp2_with fail
  refine (count_calls p _).mono ?_
  rw [HP.out]
  rintro e w' ⟨rfl, rfl⟩
  go_wp2_with fail
  go_ret
  exact ⟨rfl, (H.out.set0 _).set1 _, ((Below.refl B w).setCell hB _).setCell hB _, fun c x y hc hx => (hx.set_other hc _).set_other hc _⟩

set_option maxHeartbeats 1000000 in
set_option maxRecDepth 100000 in
theorem spend_no (b : Nat) (f k n : Int) (w : World) (h : SP w b f k) (hn : cntB n = false ∨ k < n) :
    Calls Tryd.prog 12 #[.pointer (some ⟨b, 0, none⟩), .int .i64 n] w fun e w' => e = .returned (.bool false) ∧ w = w' := by
  have h1 := h.c1
  clear h
  cases hc : cntB n with
  | false =>
    have HU := Aside0.mk hc
    clear hn hc
    go_enter Tryd.func12, Tryd.ntmps12
    go_wp2_with fail
    refine (count_calls n _).mono ?_
    rw [HU.out]
    rintro e w' ⟨rfl, rfl⟩
    go_wp2_with fail
    go_ret
    exact ⟨rfl, rfl⟩
  | true =>
    have HU := Aside0.mk hc
    have hlt : k < n := by simpa [hc] using hn
    clear hn hc
    go_enter Tryd.func12, Tryd.ntmps12
    go_wp2_with fail
    refine (count_calls n _).mono ?_
    rw [HU.out]
    rintro e w' ⟨rfl, rfl⟩
    go_wp2_with fail
    go_ret
    exact ⟨rfl, rfl⟩

set_option maxHeartbeats 1000000 in
set_option maxRecDepth 100000 in
theorem spend_ok (b : Nat) (f k n : Int) (w : World) (h : SP w b f k) (hk1 : k ≤ 1073741824) (h0 : 0 ≤ n) (hn : n ≤ k) (B : Nat) (hB : B ≤ b) :
    Calls Tryd.prog 12 #[.pointer (some ⟨b, 0, none⟩), .int .i64 n] w fun e w' => e = .returned (.bool true) ∧ SP w' b f (k - n) ∧ Below B w w' ∧ ∀ c x y, c ≠ b → SP w c x y → SP w' c x y := by
  have H := Aside0.mk h
  have h1 := h.c1
  have h3 := h.f1
  have HU := Aside0.mk (cntB_mk h0 (by omega : n ≤ 1073741824))
  clear h
  go_enter Tryd.func12, Tryd.ntmps12
  go_wp2_with fail
  refine (count_calls n _).mono ?_
  rw [HU.out]
  rintro e w' ⟨rfl, rfl⟩
  go_wp2_with fail
  go_ret
  exact ⟨rfl, H.out.set1 _, (Below.refl B w).setCell hB _, fun c x y hc hx => hx.set_other hc _⟩

set_option maxHeartbeats 1000000 in
set_option maxRecDepth 100000 in
theorem let_no (b : Nat) (f k n : Int) (w : World) (h : SP w b f k) (hn : cntB n = false ∨ k < n) :
    Calls Tryd.prog 14 #[.pointer (some ⟨b, 0, none⟩), .int .i64 n] w fun e w' => e = .returned (.bool false) ∧ w = w' := by
  have H := Aside0.mk h
  have HN := Aside0.mk hn
  clear h hn
  go_enter Tryd.func14, Tryd.ntmps14
  go_wp2_with fail
  refine (spend_no b f k n _ H.out HN.out).mono ?_
  rintro e w' ⟨rfl, rfl⟩
  go_wp2_with fail
  go_ret
  exact ⟨rfl, rfl⟩

set_option maxHeartbeats 1000000 in
set_option maxRecDepth 100000 in
theorem let_ok (b : Nat) (f k n : Int) (w : World) (h : SP w b f k) (hf0 : 0 ≤ f) (hf1 : f ≤ 1073741824) (hk1 : k ≤ 1073741824) (h0 : 0 ≤ n) (hn : n ≤ k) (B : Nat) (hB : B ≤ b) :
    Calls Tryd.prog 14 #[.pointer (some ⟨b, 0, none⟩), .int .i64 n] w fun e w' => e = .returned (.bool true) ∧ SP w' b (f + n) (k - n) ∧ Below B w w' ∧ ∀ c x y, c ≠ b → SP w c x y → SP w' c x y := by
  have H := Aside0.mk h
  clear h
  go_enter Tryd.func14, Tryd.ntmps14
  go_wp2_with fail
  refine (spend_ok b f k n _ H.out hk1 h0 hn B hB).mono ?_
  rintro e w1 ⟨rfl, h, hb, ho⟩
  have H1 := Aside0.mk h
  have HO := Aside0.mk ho
  have HB := Aside0.mk hb
  have c0 := h.c0
  have f0 := h.f0
  clear h hb ho
  go_wp2_with fail
  go_ret
  exact ⟨rfl, H1.out.set0 _, HB.out.setCell hB _, fun c x y hc hx => (HO.out c x y hc hx).set_other hc _⟩

end Go.Proofs.YtfnahgmajdjepaaDoor.Space
