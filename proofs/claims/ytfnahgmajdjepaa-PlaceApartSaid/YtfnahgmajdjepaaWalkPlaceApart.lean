/- The walk of PlaceApart: it answers true. No condition. -/
import Derived.Test.YtfnahgmajdjepaaPlaceFacts
import Derived.Test.YtfnahgmajdjepaaApartMath
namespace Go.Proofs.Ytfnahgmajdjepaa.WalkApart
open Go.RowKit Go.Proofs.Ytfnahgmajdjepaa.PPlaceSays Go.Proofs.YtfnahgmajdjepaaW.PrintWords Go.Proofs.YtfnahgmajdjepaaW.PrintLast Go.Proofs.YtfnahgmajdjepaaW.PrintMore
open Go.Proofs.Ytfnahgmajdjepaa.Facts

/-- Forty numbers in a block. -/
structure Forty (w : World) (b : Nat) (f : Nat → Int) : Prop where
  cell : ∀ i, i < 40 → w.cell? ⟨b, i, none⟩ = some (.int .i64 (f i))
  free : ∀ i, i < 40 → w.frozen? ⟨b, i, none⟩ = false
  lt : b < w.heap.size

theorem Forty.below {w w1 : World} {b : Nat} {f : Nat → Int} (h : Forty w b f) (hb : Below w.heap.size w w1) : Forty w1 b f :=
  ⟨fun i hi => (hb.cell (p := ⟨b, i, none⟩) h.lt).trans (h.cell i hi), fun i hi => (hb.frozen (p := ⟨b, i, none⟩) h.lt).trans (h.free i hi), Nat.lt_of_lt_of_le h.lt hb.size⟩

theorem Forty.drewN {w : World} {b : Nat} {f : Nat → Int} (h : Forty w b f) (n : Nat) : Forty (w.drewN n) b f := ⟨h.cell, h.free, h.lt⟩
theorem Forty.drew {w : World} {b : Nat} {f : Nat → Int} (h : Forty w b f) : Forty w.drew b f := ⟨h.cell, h.free, h.lt⟩

theorem Forty.set {w : World} {b : Nat} {f : Nat → Int} (h : Forty w b f) (P : Nat) (hP : P < 40) (v : Int) : Forty (w.setCell ⟨b, P, none⟩ (.int .i64 v)) b (fun i => if i = P then v else f i) := by
  refine ⟨fun i hi => ?_, fun i hi => ?_, by rw [World.size_setCell]; exact h.lt⟩
  · by_cases e : i = P
    · subst e
      rw [World.cell?_setCell_same _ _ _ (h.cell i hi)]; simp
    · rw [World.cell?_setCell_other _ _ _ _ (by intro h; injection h with _ h; exact e h.symm), h.cell i hi]; simp [e]
  · rw [World.frozen?_setCell]; exact h.free i hi

/-- How many of n keys, from k on, are on page p of q. -/
def cp (q k n : Nat) : Nat → Int
  | 0 => 0
  | g + 1 => (ApartMath.cw q g k n : Int)

theorem cw_le (q g k : Nat) : ∀ n, ApartMath.cw q g k n ≤ n
  | 0 => Nat.le_refl _
  | n + 1 => by
    have := cw_le q g k n
    unfold ApartMath.cw; split <;> omega

theorem cp_bd (q k n i : Nat) : 0 ≤ cp q k n i ∧ cp q k n i ≤ n := by
  cases i with
  | zero => simp [cp]
  | succ g => have := cw_le q g k n; simp [cp]; omega

theorem cp_next (q k n : Nat) (i : Nat) : cp q k (n + 1) i = if i = 1 + (k + n) * 2654435761 % 4294967296 / 65536 % q then cp q k n i + 1 else cp q k n i := by
  cases i with
  | zero => rw [if_neg (by omega)]; rfl
  | succ g =>
    have e : cp q k (n + 1) (g + 1) = ((ApartMath.cw q g k n + if (k + n) * 2654435761 % 4294967296 / 65536 % q = g then 1 else 0 : Nat) : Int) := rfl
    have e2 : cp q k n (g + 1) = (ApartMath.cw q g k n : Int) := rfl
    rw [e, e2]
    by_cases h : (k + n) * 2654435761 % 4294967296 / 65536 % q = g
    · rw [if_pos h, if_pos (by omega)]; omega
    · rw [if_neg h, if_neg (by omega)]; omega

theorem cp_end (q k i : Nat) (h1 : 8 ≤ q) (h2 : q ≤ 31) (h3 : 1 ≤ i) (h4 : i ≤ q) : cp q k 200 i ≤ 100 := by
  obtain ⟨g, rfl⟩ : ∃ g, i = g + 1 := ⟨i - 1, by omega⟩
  have := ApartMath.apart q g k h1 h2 (by omega)
  show (ApartMath.cw q g k 200 : Int) ≤ 100
  omega

theorem page_at (k n q : Nat) (hq : 1 ≤ q) : place_Page.f (k + (n : Int)) (q : Int) = some ((1 + (k + n) * 2654435761 % 4294967296 / 65536 % q : Nat) : Int) := by
  have hm : mx (q : Int) 1 = q := by unfold mx; split <;> omega
  rw [page_of, hm]
  unfold half
  simp

theorem Forty.congr {w : World} {b : Nat} {f g : Nat → Int} (h : Forty w b f) (e : ∀ i, i < 40 → f i = g i) : Forty w b g :=
  ⟨fun i hi => by rw [h.cell i hi, e i hi], h.free, h.lt⟩

set_option maxHeartbeats 1000000 in
set_option maxRecDepth 100000 in
theorem apart_calls (a0 a1 : Int) (w : World) :
    Calls Try.prog 3 #[.int .i64 a0, .int .i64 a1] w fun e w' => e = .returned (.bool true) ∧ Below w.heap.size w w' := by
  obtain ⟨k, hk, hk0, hk1⟩ := num_of a0 1048376 (by omega) (by omega)
  obtain ⟨p, hp, hp0, hp1⟩ := num_of a1 24 (by omega) (by omega)
  have HK := Aside0.mk hk
  have HP := Aside0.mk hp
  clear hk hp
  go_enter Try.func3, Try.ntmps3
  go_wp2_with fail
  refine (phoenixlaw9_first.calls true _ first_true).mono ?_
  rintro e w1 ⟨rfl, hB⟩
  have HB := Aside0.mk hB
  clear hB
  go_wp2_with fail
  refine (phoenixworld_Number.calls _ _ _ _ HK.out).mono ?_
  rintro e w' ⟨rfl, ⟨nd1, rfl⟩⟩
  go_wp2_with fail
  refine (phoenixworld_Number.calls _ _ _ _ HP.out).mono ?_
  rintro e w' ⟨rfl, ⟨nd2, rfl⟩⟩
  go_wp2_with fail
  have hst : Forty ((w1.drewN (nd1 + nd2)).alloc (Obj.cells (Array.replicate 40 (Value.int IntKind.i64 0)) 24)) w1.heap.size (cp (p + 8).toNat k.toNat 0) := by
    refine ⟨fun i hi => ?_, fun i hi => ?_, ?_⟩
    · have : cp (p + 8).toNat k.toNat 0 i = 0 := by cases i <;> rfl
      rw [this]
      refine (World.cell?_alloc_at (w := w1.drewN (nd1 + nd2)) (Array.replicate 40 (Value.int IntKind.i64 0)) 24 w1.heap.size i rfl).trans ?_
      simp [hi]
    · exact World.frozen?_alloc_at (w := w1.drewN (nd1 + nd2)) (Array.replicate 40 (Value.int IntKind.i64 0)) 24 w1.heap.size i rfl
    · show w1.heap.size < ((w1.drewN (nd1 + nd2)).alloc (Obj.cells (Array.replicate 40 (Value.int IntKind.i64 0)) 24)).heap.size
      rw [World.size_alloc]; exact Nat.lt_succ_self _
  have HS := Aside0.mk hst
  clear hst
  have hbs : w.heap.size ≤ w1.heap.size := below_size HB.out
  go_loopg [7] 201 (fun kq v7 w' => ∃ (n : Nat), v7 = .int .i64 (k + (n : Int)) ∧ Aside0 (kq + n = 201 ∧ n ≤ 200) ∧ Aside0 (Forty w' w1.heap.size (cp (p + 8).toNat k.toNat n)) ∧ Aside0 (Below w.heap.size w w'))
  case atStart => exact ⟨0, by simp, ⟨by omega⟩, HS, ⟨by repeat (first | exact HB.out | apply pw_below_drewN | apply below_drew1 | apply below_alloc)⟩⟩
  case round =>
    clear HB HS
    obtain ⟨n, rfl, HN, HS, HB⟩ := hrel
    have hkb : k < 1048376 := by omega
    by_cases hlt : k + (n : Int) < k + 200
    · obtain ⟨P, hP⟩ : ∃ P, 1 + (k.toNat + n) * 2654435761 % 4294967296 / 65536 % (p + 8).toNat = P := ⟨_, rfl⟩
      have hpa := page_at k.toNat n (p + 8).toNat (by omega)
      rw [hP] at hpa
      have hp8 := Nat.mod_lt ((k.toNat + n) * 2654435761 % 4294967296 / 65536) (show 0 < (p + 8).toNat by omega)
      obtain ⟨Q, hQ⟩ : ∃ Q : Int, Q = (P : Int) := ⟨_, rfl⟩
      have HPA := Aside0.mk (show place_Page.f (k + (n : Int)) (p + 8) = some Q by rw [hQ, show k = (k.toNat : Int) from by omega, show p + 8 = ((p + 8).toNat : Int) from by omega]; exact hpa)
      clear hpa
      obtain rfl : P = Q.toNat := by omega
      have hP1 : 1 ≤ Q := by omega
      have hP0 : 0 ≤ Q := by omega
      have hP2 : Q ≤ p + 8 := by omega
      have hP40 : Q < 40 := by omega
      have HP := Aside0.mk hP
      clear hP hp8 hQ
      go_wp2_with fail
      refine (place_Page.calls _ _ _ _ HPA.out).mono ?_
      rintro e w2 ⟨rfl, hB⟩
      replace HS := Aside0.mk (HS.out.below hB)
      replace HB := Aside0.mk (below_step (by repeat (first | exact HB.out | apply pw_below_drewN | apply below_drew1 | apply below_alloc)) hB)
      clear hB
      obtain ⟨x, hx⟩ : ∃ x, cp (p + 8).toNat k.toNat n Q.toNat = x := ⟨_, rfl⟩
      have hc := HS.out.cell Q.toNat (by omega)
      have hf := HS.out.free Q.toNat (by omega)
      have hbd := cp_bd (p + 8).toNat k.toNat n Q.toNat
      rw [hx] at hc hbd
      have HX := Aside0.mk hx
      clear hx
      have hn200 : (n : Int) < 200 := by omega
      have hx0 : 0 ≤ x := hbd.1
      have hx1 : x ≤ 200 := by omega
      clear hbd
      go_wp2_with fail
      go_roundg (gk - 1)
      case measure => have := HN.out; omega
      case rel => exact ⟨n + 1, by simp; omega, ⟨by have := HN.out; omega⟩, ⟨(HS.out.set Q.toNat (by omega) (x + 1)).congr (fun i _ => by rw [cp_next, HP.out]; by_cases e : i = Q.toNat <;> simp [e, HX.out])⟩, ⟨HB.out.setCell hbs _⟩⟩
    · have hn : n = 200 := by have := HN.out; omega
      subst hn
      go_wp2_with fail
      go_loopg [9] (p + 9).toNat (fun kq v9 w' => ∃ (i : Nat), v9 = .int .i64 (i : Int) ∧ Aside0 ((kq : Int) + i = p + 10 ∧ 1 ≤ i) ∧ Aside0 (Forty w' w1.heap.size (cp (p + 8).toNat k.toNat 200)) ∧ Aside0 (Below w.heap.size w w'))
      case atStart => exact ⟨1, by simp, ⟨by omega⟩, HS, HB⟩
      case round =>
        clear HB HS
        obtain ⟨i, rfl, HI, HS, HB⟩ := hrel
        by_cases hli : (i : Int) ≤ p + 8
        · have hi0 : (0 : Int) ≤ (i : Int) := by omega
          have hi40 : (i : Int) < 40 := by omega
          obtain ⟨x, hx⟩ : ∃ x, cp (p + 8).toNat k.toNat 200 i = x := ⟨_, rfl⟩
          have hc := HS.out.cell i (by omega)
          have hbd := cp_end (p + 8).toNat k.toNat i (by omega) (by omega) (by have := HI.out; omega) (by omega)
          rw [hx] at hc hbd
          clear hx
          have hb100 : ¬ 100 < x := by omega
          go_wp2_with fail
          go_roundg (gk - 1)
          case measure => have := HI.out; omega
          case rel => exact ⟨i + 1, by simp, ⟨by have := HI.out; omega⟩, HS, HB⟩
        · go_wp2_with fail
          go_ret
          exact ⟨by simp, HB.out⟩

end Go.Proofs.Ytfnahgmajdjepaa.WalkApart
