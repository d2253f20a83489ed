/- The contracts of parts.Owner and of the chapter's examples. No condition. -/
import Derived.Test.YtfnahgmajdjepaaPlaceFacts
namespace Go.Proofs.Ytfnahgmajdjepaa.Owner
open Go.RowKit Go.Proofs.Ytfnahgmajdjepaa.PPlaceSays Go.Proofs.YtfnahgmajdjepaaW.PrintWords Go.Proofs.YtfnahgmajdjepaaW.PrintLast Go.Proofs.YtfnahgmajdjepaaW.PrintMore
open Go.Proofs.Ytfnahgmajdjepaa.Facts
attribute [local go_sem] max2_int min2_int max_two min_two

/-- How many workers there are. -/
def wk (n : Int) : Int := if n < 1 then 1 else if 64 < n then 64 else n
theorem wk_bd (n : Int) : 1 ≤ wk n ∧ wk n ≤ 64 := by unfold wk; split <;> (try split) <;> omega

theorem round_of (k w : Int) (hw : 0 < w) (hw2 : w ≤ 64) : Int.tmod (Int.tmod k w + w) w = k % w := by
  have h1 := Int.tmod_lt_of_pos k hw
  have h2 := Int.lt_tmod_of_pos k hw
  have hm : (Int.tmod k w) % w = k % w := by
    rw [Int.tmod_eq_emod]
    split
    · simp
    · rw [show ((w.natAbs : Int)) = w from by omega]; simp
  rw [Int.tmod_eq_emod_of_nonneg (by omega), Int.add_emod_right, hm]


theorem ret_i {a b : Int} (h : a = b) : Ending.returned (.int .i64 a) = .returned (.int .i64 b) := by rw [h]

theorem round_w (k w : Int) (hw : 0 < w) (hw2 : w ≤ 64) : Int.tmod (wrap64 (Int.tmod k w + w)) w = k % w := by
  have h1 := Int.tmod_lt_of_pos k hw
  have h2 := Int.lt_tmod_of_pos k hw
  rw [w64 (by omega) (by omega), round_of k w hw hw2]

theorem round_e (k w : Int) (hk : 0 ≤ k) (hw : 0 < w) (hw2 : w ≤ 64) : Int.tmod (wrap64 (k % w + w)) w = k % w := by
  have := round_w k w hw hw2
  rwa [Int.tmod_eq_emod_of_nonneg hk] at this

theorem wk_cases (n : Int) : (n < 1 ∧ wk n = 1) ∨ (1 ≤ n ∧ 64 < n ∧ wk n = 64) ∨ (1 ≤ n ∧ n ≤ 64 ∧ wk n = n) := by
  unfold wk; split <;> (try split) <;> omega

set_option maxHeartbeats 1000000 in
set_option maxRecDepth 100000 in
theorem owner_nil (page n : Int) (h1 : 1 ≤ page) (h2 : page ≤ 100000) (A : Option Addr) (c : Nat) (w : World) :
    Calls Try.prog 16 #[.int .i64 page, .int .i64 n, .slice A 0 c] w fun e w' => e = .returned (.int .i64 ((page - 1) % wk n)) ∧ Below w.heap.size w w' := by
  rcases wk_cases n with ⟨h3, h4⟩ | ⟨h3, h4, h5⟩ | ⟨h3, h4, h5⟩
  · rw [h4]; clear h4
    go_enter Try.func16, Try.ntmps16
    go_wp2
    go_ret
    exact ⟨by simp, Below.refl _ _⟩
  · rw [h5]; clear h5
    have hr := Aside0.mk (round_e (page - 1) 64 (by omega) (by omega) (by omega))
    go_enter Try.func16, Try.ntmps16
    go_wp2
    go_ret
    exact ⟨ret_i (by first | exact hr.out | (have := hr.out; rw [Int.tmod_eq_emod_of_nonneg (by unfold wrap64; omega)] at this; unfold wrap64 at this; omega)), Below.refl _ _⟩
  · rw [h5]; clear h5
    have hr := Aside0.mk (round_e (page - 1) n (by omega) (by omega) (by omega))
    go_enter Try.func16, Try.ntmps16
    go_wp2
    go_ret
    exact ⟨ret_i hr.out, Below.refl _ _⟩

set_option maxHeartbeats 1000000 in
set_option maxRecDepth 100000 in
theorem owner_cell (page n : Int) (h1 : 1 ≤ page) (h2 : page ≤ 100000) (ad : Addr) (L c : Nat) (hL1 : (1 : Int) ≤ (L : Int)) (hL2 : (L : Int) ≤ 1000) (x : Int) (w : World) (hcell : w.cell? (ad.add ((page - 1) % (L : Int)).toNat) = some (.int .i64 x)) :
    Calls Try.prog 16 #[.int .i64 page, .int .i64 n, .slice (some ad) L c] w fun e w' => e = .returned (.int .i64 (x % wk n)) ∧ Below w.heap.size w w' := by
  have e1 := Int.emod_nonneg (page - 1) (b := (L : Int)) (by omega)
  have e2 := Int.emod_lt_of_pos (page - 1) (b := (L : Int)) (by omega)
  rcases wk_cases n with ⟨h3, h4⟩ | ⟨h3, h4, h5⟩ | ⟨h3, h4, h5⟩
  · rw [h4]; clear h4
    go_enter Try.func16, Try.ntmps16
    go_wp2
    go_ret
    exact ⟨ret_i (by simp), Below.refl _ _⟩
  · rw [h5]; clear h5
    have hr := Aside0.mk (round_w x 64 (by omega) (by omega))
    go_enter Try.func16, Try.ntmps16
    go_wp2
    go_ret
    exact ⟨ret_i hr.out, Below.refl _ _⟩
  · rw [h5]; clear h5
    have hr := Aside0.mk (round_w x n (by omega) (by omega))
    go_enter Try.func16, Try.ntmps16
    go_wp2
    go_ret
    exact ⟨ret_i hr.out, Below.refl _ _⟩

theorem owner_nil_at (page n r : Int) (h1 : 1 ≤ page) (h2 : page ≤ 100000) (hr : (page - 1) % wk n = r) (A : Option Addr) (c : Nat) (w : World) :
    Calls Try.prog 16 #[.int .i64 page, .int .i64 n, .slice A 0 c] w fun e w' => e = .returned (.int .i64 r) ∧ Below w.heap.size w w' := by
  subst hr; exact owner_nil page n h1 h2 A c w

theorem owner_map_at (page n r : Int) (h1 : 1 ≤ page) (h2 : page ≤ 100000) (A : Option Addr) (c : Nat) (l : List Int) (hl : 1 ≤ l.length) (hl2 : l.length ≤ 1000) (w : World) (hc : Kd.C (Kd.int .i64) w A l.length l) (hr : rd l ((page - 1) % (l.length : Int)) % wk n = r) :
    Calls Try.prog 16 #[.int .i64 page, .int .i64 n, .slice A l.length c] w fun e w' => e = .returned (.int .i64 r) ∧ Below w.heap.size w w' := by
  subst hr
  have e1 := Int.emod_nonneg (page - 1) (b := (l.length : Int)) (by omega)
  have e2 := Int.emod_lt_of_pos (page - 1) (b := (l.length : Int)) (by omega)
  obtain ⟨ad, e, hcell⟩ := Kd.at_int hc ((page - 1) % (l.length : Int)) e1 e2
  cases e
  exact owner_cell page n h1 h2 ad l.length c (by omega) (by omega) _ w hcell

theorem owner_cell_at (page n r : Int) (h1 : 1 ≤ page) (h2 : page ≤ 100000) (ad : Addr) (L c : Nat) (hL1 : (1 : Int) ≤ (L : Int)) (hL2 : (L : Int) ≤ 1000) (x : Int) (w : World) (hcell : w.cell? (ad.add ((page - 1) % (L : Int)).toNat) = some (.int .i64 x)) (hr : x % wk n = r) :
    Calls Try.prog 16 #[.int .i64 page, .int .i64 n, .slice (some ad) L c] w fun e w' => e = .returned (.int .i64 r) ∧ Below w.heap.size w w' := by
  subst hr; exact owner_cell page n h1 h2 ad L c hL1 hL2 x w hcell

set_option maxHeartbeats 1000000 in
set_option maxRecDepth 100000 in
theorem first_calls (w : World) : Calls Try.prog 15 #[] w fun e w' => e = .returned (.bool true) ∧ Below w.heap.size w w' := by
  go_enter Try.func15, Try.ntmps15
  go_wp2_with fail
  refine (owner_nil_at 1 5 0 (by omega) (by omega) (by decide) _ _ _).mono ?_
  rintro e w1 ⟨rfl, hB⟩
  have HB := Aside0.mk hB
  clear hB
  go_wp2_with fail
  refine (owner_nil_at 7 5 1 (by omega) (by omega) (by decide) _ _ _).mono ?_
  rintro e w2 ⟨rfl, hB⟩
  replace HB := Aside0.mk (below_step (by repeat (first | exact HB.out | apply pw_below_drewN | apply below_drew1 | apply below_alloc)) hB)
  clear hB
  go_wp2_with fail
  refine (owner_cell_at 2 5 4 (by omega) (by omega) _ 2 2 (by omega) (by omega) (-1) _ (by simp [Addr.add, go_sem]) (by decide)).mono ?_
  rintro e w3 ⟨rfl, hB⟩
  replace HB := Aside0.mk (below_step (by repeat (first | exact HB.out | apply pw_below_drewN | apply below_drew1 | apply below_alloc)) hB)
  clear hB
  go_wp2_with fail
  go_ret
  exact ⟨by simp, by repeat (first | exact HB.out | apply pw_below_drewN | apply below_drew1 | apply below_alloc)⟩

end Go.Proofs.Ytfnahgmajdjepaa.Owner
