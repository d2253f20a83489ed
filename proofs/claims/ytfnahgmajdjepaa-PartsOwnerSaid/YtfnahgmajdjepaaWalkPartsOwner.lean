/- The walk of PartsOwner: it answers true. No condition. -/
import Derived.Test.YtfnahgmajdjepaaOwner
namespace Go.Proofs.Ytfnahgmajdjepaa.WalkOwner
open Go.RowKit Go.Proofs.Ytfnahgmajdjepaa.PPlaceSays Go.Proofs.YtfnahgmajdjepaaW.PrintWords Go.Proofs.YtfnahgmajdjepaaW.PrintLast Go.Proofs.YtfnahgmajdjepaaW.PrintMore
open Go.Proofs.Ytfnahgmajdjepaa.Facts Go.Proofs.Ytfnahgmajdjepaa.Owner

theorem wk_small (b : Int) (h0 : 0 ≤ b) (h1 : b < 64) : wk (b + 1) = b + 1 := by unfold wk; rw [if_neg (by omega), if_neg (by omega)]
theorem wk_neg (b : Int) (h0 : 0 ≤ b) : wk (-(b + 1)) = 1 := by unfold wk; rw [if_pos (by omega)]
theorem wk_big (b : Int) (h0 : 0 ≤ b) : wk (64 + (b + 1)) = 64 := by unfold wk; rw [if_neg (by omega), if_pos (by omega)]

theorem owner_one (page : Int) (h1 : 1 ≤ page) (h2 : page ≤ 100000) (A : Option Addr) (c : Nat) (l : List Int) (hl2 : l.length ≤ 1000) (w : World) (hc : Kd.C (Kd.int .i64) w A l.length l) :
    Calls Try.prog 16 #[.int .i64 page, .int .i64 1, .slice A l.length c] w fun e w' => e = .returned (.int .i64 0) ∧ Below w.heap.size w w' := by
  by_cases h : l.length = 0
  · rw [h]
    exact owner_nil_at page 1 0 h1 h2 (by rw [show wk 1 = 1 from by decide, Int.emod_one]) _ _ _
  · exact owner_map_at page 1 0 h1 h2 A c l (by omega) hl2 w hc (by rw [show wk 1 = 1 from by decide, Int.emod_one])

theorem tmod_lo (x b : Int) (h : 0 < b) (hn : Int.tmod x b < 0) : x % b = Int.tmod x b + b := by
  have h1 := Int.tmod_lt_of_pos x h
  have h2 := Int.lt_tmod_of_pos x h
  have hm : (Int.tmod x b) % b = x % b := by
    rw [Int.tmod_eq_emod]
    split
    · simp
    · rw [show ((b.natAbs : Int)) = b from by omega]; simp
  rw [← hm, ← Int.add_emod_right, Int.emod_eq_of_lt (by omega) (by omega)]

theorem tmod_hi (x b : Int) (h : 0 < b) (hn : ¬ Int.tmod x b < 0) : x % b = Int.tmod x b := by
  have h1 := Int.tmod_lt_of_pos x h
  have hm : (Int.tmod x b) % b = x % b := by
    rw [Int.tmod_eq_emod]
    split
    · simp
    · rw [show ((b.natAbs : Int)) = b from by omega]; simp
  rw [← hm, Int.emod_eq_of_lt (by omega) (by omega)]

set_option maxHeartbeats 1000000 in
set_option maxRecDepth 100000 in
theorem owner_calls (a0 a1 : Int) (A : Option Addr) (c : Nat) (l : List Int) (_hlc : l.length ≤ c) (hlm : l.length ≤ maxLen) (w : World) (hC : Kd.C (Kd.int .i64) w A l.length l) :
    Calls Try.prog 5 #[.int .i64 a0, .int .i64 a1, .slice A l.length c] w fun e w' => e = .returned (.bool true) ∧ Below w.heap.size w w' := by
  unfold maxLen at hlm
  obtain ⟨p, hp, hp0, hp1⟩ := num_of a0 100 (by omega) (by omega)
  obtain ⟨b, hb, hb0, hb1⟩ := num_of a1 64 (by omega) (by omega)
  have HP := Aside0.mk hp
  have HN := Aside0.mk hb
  clear hp hb
  have HC := Aside0.mk hC
  clear hC
  by_cases hl20 : (l.length : Int) > 20
  · go_enter Try.func5, Try.ntmps5
    go_wp2_with fail
    refine (first_calls _).mono ?_
    rintro e w1 ⟨rfl, hB⟩
    go_wp2_with fail
    go_ret
    exact ⟨rfl, hB⟩
  · have q0 : 0 ≤ p % (b + 1) := Int.emod_nonneg _ (by omega)
    have q1 : p % (b + 1) < b + 1 := Int.emod_lt_of_pos _ (by omega)
    go_enter Try.func5, Try.ntmps5
    go_wp2_with fail
    refine (first_calls _).mono ?_
    rintro e w1 ⟨rfl, hB⟩
    have HB := Aside0.mk hB
    replace HC := Aside0.mk (Kd.C_below HC.out hB)
    clear hB
    go_wp2_with fail
    refine (phoenixworld_Number.calls _ _ _ _ HP.out).mono ?_
    rintro e w' ⟨rfl, ⟨nd1, rfl⟩⟩
    go_wp2_with fail
    refine (phoenixworld_Number.calls _ _ _ _ HN.out).mono ?_
    rintro e w' ⟨rfl, ⟨nd2, rfl⟩⟩
    go_wp2_with fail
    refine (owner_nil_at _ _ (p % (b + 1)) (by omega) (by omega) (by rw [wk_small b hb0 hb1, show p + 1 - 1 = p from by omega]) _ _ _).mono ?_
    rintro e w2 ⟨rfl, hB⟩
    replace HC := Aside0.mk (Kd.C_below (Kd.C_drewN HC.out _) hB)
    replace HB := Aside0.mk (below_step (by repeat (first | exact HB.out | apply pw_below_drewN | apply below_drew1 | apply below_alloc)) hB)
    clear hB
    go_wp2_with fail
    refine (owner_nil_at _ _ (p % (b + 1)) (by omega) (by omega) (by rw [wk_small b hb0 hb1, show p + 1 + (b + 1) - 1 = p + (b + 1) from by omega, Int.add_emod_right]) _ _ _).mono ?_
    rintro e w3 ⟨rfl, hB⟩
    replace HC := Aside0.mk (Kd.C_below HC.out hB)
    replace HB := Aside0.mk (below_step (by repeat (first | exact HB.out | apply pw_below_drewN | apply below_drew1 | apply below_alloc)) hB)
    clear hB
    go_wp2_with fail
    refine (owner_one _ (by omega) (by omega) _ _ l (by omega) _ HC.out).mono ?_
    rintro e w4 ⟨rfl, hB⟩
    replace HC := Aside0.mk (Kd.C_below HC.out hB)
    replace HB := Aside0.mk (below_step (by repeat (first | exact HB.out | apply pw_below_drewN | apply below_drew1 | apply below_alloc)) hB)
    clear hB
    go_wp2_with fail
    refine (owner_nil_at _ _ 0 (by omega) (by omega) (by first | rw [wk_neg b hb0, Int.emod_one] | rw [show (-1 - b : Int) = -(b + 1) from by omega, wk_neg b hb0, Int.emod_one] | rw [show (-b + -1 : Int) = -(b + 1) from by omega, wk_neg b hb0, Int.emod_one]) _ _ _).mono ?_
    rintro e w5 ⟨rfl, hB⟩
    replace HC := Aside0.mk (Kd.C_below HC.out hB)
    replace HB := Aside0.mk (below_step (by repeat (first | exact HB.out | apply pw_below_drewN | apply below_drew1 | apply below_alloc)) hB)
    clear hB
    have z0 : 0 ≤ p % 64 := by omega
    have z1 : p % 64 < 64 := by omega
    go_wp2_with fail
    refine (owner_nil_at _ _ (p % 64) (by omega) (by omega) (by rw [wk_big b hb0, show p + 1 - 1 = p from by omega]) _ _ _).mono ?_
    rintro e w6 ⟨rfl, hB⟩
    replace HC := Aside0.mk (Kd.C_below HC.out hB)
    replace HB := Aside0.mk (below_step (by repeat (first | exact HB.out | apply pw_below_drewN | apply below_drew1 | apply below_alloc)) hB)
    clear hB
    go_wp2_with fail
    refine (owner_nil_at _ _ (p % 64) (by omega) (by omega) (by rw [show wk 64 = 64 from by decide, show p + 1 - 1 = p from by omega]) _ _ _).mono ?_
    rintro e w7 ⟨rfl, hB⟩
    replace HC := Aside0.mk (Kd.C_below HC.out hB)
    replace HB := Aside0.mk (below_step (by repeat (first | exact HB.out | apply pw_below_drewN | apply below_drew1 | apply below_alloc)) hB)
    clear hB
    by_cases hz : l.length = 0
    · have hz' : ((l.length : Int) == 0) = true := by simp [hz]
      go_wp2_with fail
      go_ret
      exact ⟨by simp, by repeat (first | exact HB.out | apply pw_below_drewN | apply below_drew1 | apply below_alloc)⟩
    · have hz' : ((l.length : Int) == 0) = false := by simp; intro h; exact hz (by simp [h])
      have L1 : (1 : Int) ≤ (l.length : Int) := by omega
      have e1 := Int.emod_nonneg p (b := (l.length : Int)) (by omega)
      have e2 := Int.emod_lt_of_pos p (b := (l.length : Int)) (by omega)
      obtain ⟨x, hx⟩ : ∃ x, rd l (p % (l.length : Int)) = x := ⟨_, rfl⟩
      have HX := Aside0.mk hx
      clear hx
      have g1 := Int.tmod_lt_of_pos x (b := b + 1) (by omega)
      have g2 := Int.lt_tmod_of_pos x (b := b + 1) (by omega)
      have r0 : 0 ≤ x % (b + 1) := Int.emod_nonneg _ (by omega)
      have r1 : x % (b + 1) < b + 1 := Int.emod_lt_of_pos _ (by omega)
      have HR := Aside0.mk (tmod_lo x (b + 1) (by omega))
      have HR2 := Aside0.mk (tmod_hi x (b + 1) (by omega))
      go_wp2_with fail
      refine (owner_map_at _ _ (x % (b + 1)) (by omega) (by omega) _ _ l (by omega) (by omega) _ HC.out (by rw [wk_small b hb0 hb1, show p + 1 - 1 = p from by omega, HX.out])).mono ?_
      rintro e w8 ⟨rfl, hB⟩
      replace HC := Aside0.mk (Kd.C_below HC.out hB)
      replace HB := Aside0.mk (below_step (by repeat (first | exact HB.out | apply pw_below_drewN | apply below_drew1 | apply below_alloc)) hB)
      clear hB
      obtain ⟨ad, e, hcell⟩ := Kd.at_int HC.out (p % (l.length : Int)) e1 e2
      cases e
      rw [HX.out] at hcell
      by_cases hneg : Int.tmod x (b + 1) < 0
      · have hr := HR.out hneg
        have HRR := Aside0.mk hr
        clear hr HR HR2
        have bb : ((x % (b + 1)) == (Int.tmod x (b + 1) + (b + 1))) = true := beq_iff_eq.mpr HRR.out
        go_wp2_with fail
        refine (owner_map_at _ _ (x % (b + 1)) (by omega) (by omega) _ _ l (by omega) (by omega) _ HC.out (by rw [wk_small b hb0 hb1, show p + 1 + (l.length : Int) - 1 = p + (l.length : Int) from by omega, Int.add_emod_right, HX.out])).mono ?_
        rintro e w9 ⟨rfl, hB⟩
        replace HB := Aside0.mk (below_step (by repeat (first | exact HB.out | apply pw_below_drewN | apply below_drew1 | apply below_alloc)) hB)
        clear hB
        go_wp2_with fail
        go_ret
        exact ⟨by simp, by repeat (first | exact HB.out | apply pw_below_drewN | apply below_drew1 | apply below_alloc)⟩
      · have hr := HR2.out (by omega)
        have HRR := Aside0.mk hr
        clear hr HR HR2
        have bb : ((x % (b + 1)) == Int.tmod x (b + 1)) = true := beq_iff_eq.mpr HRR.out
        go_wp2_with fail
        refine (owner_map_at _ _ (x % (b + 1)) (by omega) (by omega) _ _ l (by omega) (by omega) _ HC.out (by rw [wk_small b hb0 hb1, show p + 1 + (l.length : Int) - 1 = p + (l.length : Int) from by omega, Int.add_emod_right, HX.out])).mono ?_
        rintro e w9 ⟨rfl, hB⟩
        replace HB := Aside0.mk (below_step (by repeat (first | exact HB.out | apply pw_below_drewN | apply below_drew1 | apply below_alloc)) hB)
        clear hB
        go_wp2_with fail
        go_ret
        exact ⟨by simp, by repeat (first | exact HB.out | apply pw_below_drewN | apply below_drew1 | apply below_alloc)⟩

end Go.Proofs.Ytfnahgmajdjepaa.WalkOwner
