/- The contracts of package space and of the reference's room, at any counts. No condition but that api's errors are what their text says. -/
import Derived.Test.YtfnahgmajdjepaaDoorFirst
namespace Go.Proofs.YtfnahgmajdjepaaDoor.Any
open Go.RowKit Go.Proofs.YtfnahgmajdjepaaDoorW.PrintWords Go.Proofs.YtfnahgmajdjepaaDoorW.PrintLast Go.Proofs.YtfnahgmajdjepaaDoorW.PrintMore
open Go.Proofs.YtfnahgmajdjepaaDoor.See Go.Proofs.YtfnahgmajdjepaaDoor.Space Go.Proofs.YtfnahgmajdjepaaDoor.First
attribute [local go_sem] max2_int min2_int max_two min_two
set_option linter.unusedVariables false
set_option linter.unusedSimpArgs false

theorem SP.as {w : World} {b : Nat} {f k : Int} (h : SP w b f k) {f' k' : Int} (hf : f = f') (hk : k = k') : SP w b f' k' := by subst hf; subst hk; exact h

def spB (k n : Int) : Bool := cntB n && decide (n ≤ k)
def spK (k n : Int) : Int := if spB k n then k - n else k
def leF (f k n : Int) : Int := if spB k n then f + n else f
def asC (f u p : Int) : Int := if cntB u && cntB p then (if f < u + p then 109 else 0) else 102
def asF (f u p : Int) : Int := if asC f u p = 0 then f - (u + p) else f
def asK (f k u p : Int) : Int := if asC f u p = 0 then k + p else k

/-- What holds of the room. -/
structure Ok (f k : Int) : Prop where
  f0 : 0 ≤ f
  k0 : 0 ≤ k
  fk : f + k ≤ 1073741824

theorem ok_sp {f k : Int} (h : Ok f k) (n : Int) : Ok f (spK k n) := by
  have := h.f0; have := h.k0; have := h.fk
  unfold spK
  cases hs : spB k n with
  | false => exact ⟨by assumption, by simpa using h.k0, by simpa using h.fk⟩
  | true =>
    unfold spB at hs
    simp at hs
    have := cntB_true hs.1
    exact ⟨h.f0, by simp; omega, by simp; omega⟩
theorem ok_le {f k : Int} (h : Ok f k) (n : Int) : Ok (leF f k n) (spK k n) := by
  have := h.f0; have := h.k0; have := h.fk
  unfold spK leF
  cases hs : spB k n with
  | false => exact ⟨by simpa using h.f0, by simpa using h.k0, by simpa using h.fk⟩
  | true =>
    unfold spB at hs
    simp at hs
    have := cntB_true hs.1
    exact ⟨by simp; omega, by simp; omega, by simp; omega⟩
theorem ok_as {f k : Int} (h : Ok f k) (u p : Int) : Ok (asF f u p) (asK f k u p) := by
  have := h.f0; have := h.k0; have := h.fk
  unfold asF asK
  by_cases hc : asC f u p = 0
  · rw [if_pos hc, if_pos hc]
    unfold asC at hc
    split at hc
    · next hcc =>
      simp at hcc
      have := cntB_true hcc.1
      have := cntB_true hcc.2
      split at hc
      · omega
      · exact ⟨by omega, by omega, by omega⟩
    · omega
  · rw [if_neg hc, if_neg hc]; exact h

theorem spend_any (b : Nat) (f k n : Int) (w : World) (h : SP w b f k) (hok : Ok f k) (B : Nat) (hB : B ≤ b) :
    Calls Tryd.prog 12 #[.pointer (some ⟨b, 0, none⟩), .int .i64 n] w fun e w' => e = .returned (.bool (spB k n)) ∧ SP w' b f (spK k n) ∧ Below B w w' ∧ ∀ c x y, c ≠ b → SP w c x y → SP w' c x y := by
  have h1 := hok.f0; have h2 := hok.k0; have h3 := hok.fk
  cases hs : spB k n with
  | true =>
    have hs' := hs
    unfold spB at hs'
    simp at hs'
    have hc := cntB_true hs'.1
    have := spend_ok b f k n w h (by omega) hc.1 hs'.2 B hB
    unfold spK
    rw [hs]
    exact this
  | false =>
    have hs' := hs
    unfold spB at hs'
    simp at hs'
    refine (spend_no b f k n w h (by
      cases hc : cntB n with
      | false => exact Or.inl rfl
      | true => exact Or.inr (by have := hs' hc; omega))).mono ?_
    rintro e w' ⟨rfl, rfl⟩
    unfold spK
    rw [hs]
    exact ⟨rfl, h, Below.refl _ _, fun c x y _ hx => hx⟩

theorem let_any (b : Nat) (f k n : Int) (w : World) (h : SP w b f k) (hok : Ok f k) (B : Nat) (hB : B ≤ b) :
    Calls Tryd.prog 14 #[.pointer (some ⟨b, 0, none⟩), .int .i64 n] w fun e w' => e = .returned (.bool (spB k n)) ∧ SP w' b (leF f k n) (spK k n) ∧ Below B w w' ∧ ∀ c x y, c ≠ b → SP w c x y → SP w' c x y := by
  have h1 := hok.f0; have h2 := hok.k0; have h3 := hok.fk
  cases hs : spB k n with
  | true =>
    have hs' := hs
    unfold spB at hs'
    simp at hs'
    have hc := cntB_true hs'.1
    have := let_ok b f k n w h (by omega) (by omega) (by omega) hc.1 hs'.2 B hB
    unfold spK leF
    rw [hs]
    exact this
  | false =>
    have hs' := hs
    unfold spB at hs'
    simp at hs'
    refine (let_no b f k n w h (by
      cases hc : cntB n with
      | false => exact Or.inl rfl
      | true => exact Or.inr (by have := hs' hc; omega))).mono ?_
    rintro e w' ⟨rfl, rfl⟩
    unfold spK leF
    rw [hs]
    exact ⟨rfl, h, Below.refl _ _, fun c x y _ hx => hx⟩

theorem ask_any (a : Nat → Addr) (b : Nat) (f k u p : Int) (w : World) (h : SP w b f k) (hs : Sents w a) (hok : Ok f k) (B : Nat) (hB : B ≤ b) :
    Calls Tryd.prog 17 #[.pointer (some ⟨b, 0, none⟩), .int .i64 u, .int .i64 p] w fun e w' => ∃ v, e = .returned v ∧ EV a v (asC f u p) ∧ SP w' b (asF f u p) (asK f k u p) ∧ Below B w w' ∧ ∀ c x y, c ≠ b → SP w c x y → SP w' c x y := by
  have h1 := hok.f0; have h2 := hok.k0; have h3 := hok.fk
  cases hc : (cntB u && cntB p) with
  | false =>
    have e : asC f u p = 102 := by unfold asC; rw [hc]; rfl
    refine (ask_range a b u p w hs (by
      cases h1 : cntB u with
      | false => exact Or.inl rfl
      | true => rw [h1] at hc; exact Or.inr (by simpa using hc))).mono ?_
    rintro e' w' ⟨rfl, rfl⟩
    unfold asF asK
    rw [e]
    exact ⟨_, rfl, ev102 a, h, Below.refl _ _, fun c x y _ hx => hx⟩
  | true =>
    have hc' := hc
    simp at hc'
    by_cases hf : f < u + p
    · have e : asC f u p = 109 := by unfold asC; rw [hc]; simp [hf]
      refine (ask_full a b f k u p w h hs hc'.1 hc'.2 hf).mono ?_
      rintro e' w' ⟨rfl, rfl⟩
      unfold asF asK
      rw [e]
      exact ⟨_, rfl, ev109 a, h, Below.refl _ _, fun c x y _ hx => hx⟩
    · have e : asC f u p = 0 := by unfold asC; rw [hc]; simp [hf]
      refine (ask_ok b f k u p w h (by omega) (by omega) (by omega) hc'.1 hc'.2 (by omega) B hB).mono ?_
      rintro e' w' ⟨rfl, hp, hb, ho⟩
      unfold asF asK
      rw [e]
      exact ⟨_, rfl, ev0 a, hp, hb, ho⟩

/-! ### the reference -/
set_option maxHeartbeats 1000000 in
set_option maxRecDepth 100000 in
theorem rnew_calls (r : Int) (w : World) :
    Calls Tryd.prog 9 #[.int .i64 r] w fun e w' => e = .returned (.pointer (some ⟨w.heap.size, 0, none⟩)) ∧ SP w' w.heap.size (clampR r) 0 ∧ Below w.heap.size w w' := by
  rcases (show (r < 0 ∧ clampR r = 0) ∨ (0 ≤ r ∧ 1073741824 < r ∧ clampR r = 1073741824) ∨ (0 ≤ r ∧ r ≤ 1073741824 ∧ clampR r = r) by unfold clampR; split <;> (try split) <;> omega) with ⟨h1, h2⟩ | ⟨h1, h2, h3⟩ | ⟨h1, h2, h3⟩
  · rw [h2]; clear h2
    go_enter Tryd.func9, Tryd.ntmps9
    go_wp2
    go_ret
    exact ⟨rfl, ⟨by simp, by simp, by simp, by simp⟩, below_alloc (Below.refl _ _) _⟩
  · rw [h3]; clear h3
    go_enter Tryd.func9, Tryd.ntmps9
    go_wp2
    go_ret
    exact ⟨rfl, ⟨by simp, by simp, by simp, by simp⟩, below_alloc (Below.refl _ _) _⟩
  · rw [h3]; clear h3
    go_enter Tryd.func9, Tryd.ntmps9
    go_wp2
    go_ret
    exact ⟨rfl, ⟨by simp, by simp, by simp, by simp⟩, below_alloc (Below.refl _ _) _⟩

set_option maxHeartbeats 1000000 in
set_option maxRecDepth 100000 in
theorem rcount_calls (n : Int) (w : World) : Calls Tryd.prog 21 #[.int .i64 n] w fun e w' => e = .returned (.bool (cntB n)) ∧ w = w' := by
  rcases (show (n < 0 ∧ cntB n = false) ∨ (0 ≤ n ∧ 1073741824 < n ∧ cntB n = false) ∨ (0 ≤ n ∧ n ≤ 1073741824 ∧ cntB n = true) by
    rcases (by omega : n < 0 ∨ (0 ≤ n ∧ 1073741824 < n) ∨ (0 ≤ n ∧ n ≤ 1073741824)) with h | ⟨h, h2⟩ | ⟨h, h2⟩
    · exact Or.inl ⟨h, cntB_neg h⟩
    · exact Or.inr (Or.inl ⟨h, h2, cntB_big h2⟩)
    · exact Or.inr (Or.inr ⟨h, h2, cntB_mk h h2⟩)) with ⟨h1, h2⟩ | ⟨h1, h2, h3⟩ | ⟨h1, h2, h3⟩
  · rw [h2]; clear h2
    go_enter Tryd.func21, Tryd.ntmps21
    go_wp2
    go_ret
    exact ⟨by simp <;> omega, rfl⟩
  · rw [h3]; clear h3
    go_enter Tryd.func21, Tryd.ntmps21
    go_wp2
    go_ret
    exact ⟨by simp <;> omega, rfl⟩
  · rw [h3]; clear h3
    go_enter Tryd.func21, Tryd.ntmps21
    go_wp2
    go_ret
    exact ⟨by simp <;> omega, rfl⟩

set_option maxHeartbeats 1000000 in
set_option maxRecDepth 100000 in
theorem rspend_any (b : Nat) (f k n : Int) (w : World) (h : SP w b f k) (hok : Ok f k) (B : Nat) (hB : B ≤ b) :
    Calls Tryd.prog 13 #[.pointer (some ⟨b, 0, none⟩), .int .i64 n] w fun e w' => e = .returned (.bool (spB k n)) ∧ SP w' b f (spK k n) ∧ Below B w w' ∧ ∀ c x y, c ≠ b → SP w c x y → SP w' c x y := by
  have g1 := hok.f0; have g2 := hok.k0; have g3 := hok.fk
  have H := Aside0.mk h
  have h1 := h.c1
  have h3 := h.f1
  clear h hok
  cases hc : cntB n with
  | false =>
    have e1 : spB k n = false := by unfold spB; rw [hc]; rfl
    have e2 : spK k n = k := by unfold spK; rw [e1]; simp
    rw [e1, e2]
    have HU := Aside0.mk hc
    clear hc e1 e2
    go_enter Tryd.func13, Tryd.ntmps13
    go_wp2_with fail
    refine (rcount_calls n _).mono ?_
    rw [HU.out]
    rintro e w' ⟨rfl, rfl⟩
    go_wp2_with fail
    go_ret
    exact ⟨rfl, H.out, Below.refl _ _, fun c x y _ hx => hx⟩
  | true =>
    obtain ⟨n0, n1⟩ := cntB_true hc
    by_cases hle : n ≤ k
    · have e1 : spB k n = true := by unfold spB; rw [hc]; simpa using hle
      have e2 : spK k n = k - n := by unfold spK; rw [e1]; simp
      rw [e1, e2]
      have HU := Aside0.mk hc
      clear hc e1 e2
      go_enter Tryd.func13, Tryd.ntmps13
      go_wp2_with fail
      refine (rcount_calls n _).mono ?_
      rw [HU.out]
      rintro e w' ⟨rfl, rfl⟩
      go_wp2_with fail
      go_ret
      exact ⟨rfl, H.out.set1 _, (Below.refl B w).setCell hB _, fun c x y hc hx => hx.set_other hc _⟩
    · have e1 : spB k n = false := by unfold spB; rw [hc]; simpa using hle
      have e2 : spK k n = k := by unfold spK; rw [e1]; simp
      rw [e1, e2]
      have HU := Aside0.mk hc
      have hlt : k < n := by omega
      clear hc e1 e2 hle
      go_enter Tryd.func13, Tryd.ntmps13
      go_wp2_with fail
      refine (rcount_calls n _).mono ?_
      rw [HU.out]
      rintro e w' ⟨rfl, rfl⟩
      go_wp2_with fail
      go_ret
      exact ⟨rfl, H.out, Below.refl _ _, fun c x y _ hx => hx⟩

set_option maxHeartbeats 1000000 in
set_option maxRecDepth 100000 in
theorem rlet_any (b : Nat) (f k n : Int) (w : World) (h : SP w b f k) (hok : Ok f k) (B : Nat) (hB : B ≤ b) :
    Calls Tryd.prog 15 #[.pointer (some ⟨b, 0, none⟩), .int .i64 n] w fun e w' => e = .returned (.bool (spB k n)) ∧ SP w' b (leF f k n) (spK k n) ∧ Below B w w' ∧ ∀ c x y, c ≠ b → SP w c x y → SP w' c x y := by
  have g1 := hok.f0; have g2 := hok.k0; have g3 := hok.fk
  have H := Aside0.mk h
  have HO := Aside0.mk hok
  clear h hok
  cases hs : spB k n with
  | false =>
    have e2 : leF f k n = f := by unfold leF; rw [hs]; simp
    rw [e2]
    have HU := Aside0.mk hs
    clear hs e2
    go_enter Tryd.func15, Tryd.ntmps15
    go_wp2_with fail
    refine (rspend_any b f k n _ H.out HO.out B hB).mono ?_
    rw [HU.out]
    rintro e w1 ⟨rfl, hp, hb, ho⟩
    have HP := Aside0.mk hp
    have HB := Aside0.mk hb
    have HX := Aside0.mk ho
    clear hp hb ho
    go_wp2_with fail
    go_ret
    exact ⟨rfl, HP.out, HB.out, HX.out⟩
  | true =>
    have hs' := hs
    unfold spB at hs'
    simp at hs'
    obtain ⟨n0, n1⟩ := cntB_true hs'.1
    have hnk := hs'.2
    have e2 : leF f k n = f + n := by unfold leF; rw [hs]; simp
    rw [e2]
    have HU := Aside0.mk hs
    clear hs hs' e2
    go_enter Tryd.func15, Tryd.ntmps15
    go_wp2_with fail
    refine (rspend_any b f k n _ H.out HO.out B hB).mono ?_
    rw [HU.out]
    rintro e w1 ⟨rfl, hp, hb, ho⟩
    have HP := Aside0.mk hp
    have HB := Aside0.mk hb
    have HX := Aside0.mk ho
    have c0 := hp.c0
    have f0 := hp.f0
    clear hp hb ho
    go_wp2_with fail
    go_ret
    exact ⟨rfl, HP.out.set0 _, HB.out.setCell hB _, fun c x y hc hx => (HX.out c x y hc hx).set_other hc _⟩

set_option maxHeartbeats 1000000 in
set_option maxRecDepth 100000 in
theorem rask_any (b : Nat) (f k u p : Int) (w : World) (h : SP w b f k) (hok : Ok f k) (B : Nat) (hB : B ≤ b) :
    Calls Tryd.prog 18 #[.pointer (some ⟨b, 0, none⟩), .int .i64 u, .int .i64 p] w fun e w' => e = .returned (.int .i64 (asC f u p)) ∧ SP w' b (asF f u p) (asK f k u p) ∧ Below B w w' ∧ ∀ c x y, c ≠ b → SP w c x y → SP w' c x y := by
  have g1 := hok.f0; have g2 := hok.k0; have g3 := hok.fk
  have H := Aside0.mk h
  have h0 := h.c0
  have h1 := h.c1
  have h2 := h.f0
  have h3 := h.f1
  clear h hok
  cases hcu : cntB u with
  | false =>
    have e : asC f u p = 102 := by unfold asC; rw [hcu]; rfl
    have e1 : asF f u p = f := by unfold asF; rw [e]; rfl
    have e2 : asK f k u p = k := by unfold asK; rw [e]; rfl
    rw [e, e1, e2]
    have HU := Aside0.mk hcu
    clear hcu e e1 e2
    go_enter Tryd.func18, Tryd.ntmps18
    go_wp2_with fail
    refine (rcount_calls u _).mono ?_
    rw [HU.out]
    rintro e w' ⟨rfl, rfl⟩
    go_wp2_with fail
    go_ret
    exact ⟨rfl, H.out, Below.refl _ _, fun c x y _ hx => hx⟩
  | true =>
    cases hcp : cntB p with
    | false =>
      have e : asC f u p = 102 := by unfold asC; rw [hcu, hcp]; rfl
      have e1 : asF f u p = f := by unfold asF; rw [e]; rfl
      have e2 : asK f k u p = k := by unfold asK; rw [e]; rfl
      rw [e, e1, e2]
      have HU := Aside0.mk hcu
      have HP := Aside0.mk hcp
      clear hcu hcp e e1 e2
      go_enter Tryd.func18, Tryd.ntmps18
      go_wp2_with fail
      refine (rcount_calls u _).mono ?_
      rw [HU.out]
      rintro e w' ⟨rfl, rfl⟩
      go_wp2_with fail
      refine (rcount_calls p _).mono ?_
      rw [HP.out]
      rintro e w' ⟨rfl, rfl⟩
      go_wp2_with fail
      go_ret
      exact ⟨rfl, H.out, Below.refl _ _, fun c x y _ hx => hx⟩
    | true =>
      obtain ⟨u0, u1⟩ := cntB_true hcu
      obtain ⟨p0, p1⟩ := cntB_true hcp
      by_cases hf : f < u + p
      · have e : asC f u p = 109 := by unfold asC; rw [hcu, hcp]; simp [hf]
        have e1 : asF f u p = f := by unfold asF; rw [e]; rfl
        have e2 : asK f k u p = k := by unfold asK; rw [e]; rfl
        rw [e, e1, e2]
        have HU := Aside0.mk hcu
        have HP := Aside0.mk hcp
        clear hcu hcp e e1 e2
        go_enter Tryd.func18, Tryd.ntmps18
        go_wp2_with fail
        refine (rcount_calls u _).mono ?_
        rw [HU.out]
        rintro e w' ⟨rfl, rfl⟩
        go_wp2_with fail
        refine (rcount_calls p _).mono ?_
        rw [HP.out]
        rintro e w' ⟨rfl, rfl⟩
        go_wp2_with fail
        go_ret
        exact ⟨rfl, H.out, Below.refl _ _, fun c x y _ hx => hx⟩
      · have e : asC f u p = 0 := by unfold asC; rw [hcu, hcp]; simp [hf]
        have e1 : asF f u p = f - u - p := by unfold asF; rw [e, if_pos rfl]; omega
        have e2 : asK f k u p = k + p := by unfold asK; rw [e]; rfl
        rw [e, e1, e2]
        have HU := Aside0.mk hcu
        have HP := Aside0.mk hcp
        have hf' : u + p ≤ f := by omega
        clear hcu hcp e e1 e2 hf
        go_enter Tryd.func18, Tryd.ntmps18
        go_wp2_with fail
        refine (rcount_calls u _).mono ?_
        rw [HU.out]
        rintro e w' ⟨rfl, rfl⟩
        go_wp2_with fail
        refine (rcount_calls p _).mono ?_
        rw [HP.out]
        rintro e w' ⟨rfl, rfl⟩
        go_wp2_with fail
        go_ret
        exact ⟨rfl, (H.out.set0 _).set1 _, ((Below.refl B w).setCell hB _).setCell hB _, fun c x y hc hx => (hx.set_other hc _).set_other hc _⟩

end Go.Proofs.YtfnahgmajdjepaaDoor.Any
