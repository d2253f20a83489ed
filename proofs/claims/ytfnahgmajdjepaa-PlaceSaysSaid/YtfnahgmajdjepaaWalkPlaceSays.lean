/- The walk of PlaceSays: it answers true. No condition. -/
import Derived.Test.YtfnahgmajdjepaaPlaceFacts
namespace Go.Proofs.Ytfnahgmajdjepaa.WalkSays
open Go.RowKit Go.Proofs.Ytfnahgmajdjepaa.PPlaceSays Go.Proofs.YtfnahgmajdjepaaW.PrintWords Go.Proofs.YtfnahgmajdjepaaW.PrintLast Go.Proofs.YtfnahgmajdjepaaW.PrintMore
open Go.Proofs.Ytfnahgmajdjepaa.Facts
attribute [local go_sem] max2_int min2_int max_two min_two max_three min_three max_four min_four

set_option maxHeartbeats 1000000 in
set_option maxRecDepth 100000 in
theorem says_core (a0 a1 a2 a3 a4 p q : Int) (hp : phoenixworld_Number.f a1 40 = some p) (hp0 : 0 ≤ p) (hp1 : p < 40) (hq : (p < 1 ∧ q = 1) ∨ (1 ≤ p ∧ p = q)) (w : World) :
    Calls Try.prog 7 #[.int .i64 a0, .int .i64 a1, .int .i64 a2, .int .i64 a3, .int .i64 a4] w fun e w' => e = .returned (.bool true) ∧ Below w.heap.size w w' := by
  obtain ⟨b, hb, hb0, hb1⟩ := num_of a2 100 (by omega) (by omega)
  obtain ⟨n, hn, hn0, hn1⟩ := num_of a4 40 (by omega) (by omega)
  obtain ⟨g, hg, hg0, hg1⟩ := num_of a3 42 (by omega) (by omega)
  have HP := Aside0.mk hp
  have HBL := Aside0.mk hb
  have HN := Aside0.mk hn
  have HG := Aside0.mk hg
  have HG0 := Aside0.mk (page_of a0 a1)
  have HG1 := Aside0.mk (ref_of a0 a1)
  clear hp hb hn hg
  generalize 1 + half a0 % mx a1 1 = pg at HG0 HG1
  obtain ⟨k, r, hk1, hk2, hlen⟩ := keys_both (g - 1) q (n - 3)
  have HK1 := Aside0.mk hk1
  have HK2 := Aside0.mk hk2
  have HL := Aside0.mk hlen
  clear hk1 hk2 hlen
  rcases hq with ⟨hq, rfl⟩ | ⟨hq, rfl⟩
  all_goals
    go_enter Try.func7, Try.ntmps7
    go_wp2_with fail
    refine (phoenixlaw9_first.calls true _ first_true).mono ?_
    rintro e w1 ⟨rfl, hB⟩
    have HB := Aside0.mk hB
    clear hB
    go_wp2_with fail
    refine (phoenixworld_Number.calls _ _ _ _ HP.out).mono ?_
    rintro e w' ⟨rfl, ⟨nd1, rfl⟩⟩
    go_wp2_with fail
    refine (phoenixworld_Number.calls _ _ _ _ HBL.out).mono ?_
    rintro e w' ⟨rfl, ⟨nd2, rfl⟩⟩
    go_wp2_with fail
    refine (phoenixworld_Number.calls _ _ _ _ HN.out).mono ?_
    rintro e w' ⟨rfl, ⟨nd3, rfl⟩⟩
    go_wp2_with fail
    refine (phoenixworld_Number.calls _ _ _ _ HG.out).mono ?_
    rintro e w' ⟨rfl, ⟨nd4, rfl⟩⟩
    go_wp2_with fail
    refine (place_Page.calls _ _ _ _ HG0.out).mono ?_
    rintro e w2 ⟨rfl, hB⟩
    replace HB := Aside0.mk (below_step (by repeat (first | exact HB.out | apply pw_below_drewN | apply below_drew1 | apply below_alloc)) hB)
    clear hB
    go_wp2_with fail
    refine (phoenixref7_Place.calls _ _ _ _ HG1.out).mono ?_
    rintro e w3 ⟨rfl, hB⟩
    replace HB := Aside0.mk (below_step (by repeat (first | exact HB.out | apply pw_below_drewN | apply below_drew1 | apply below_alloc)) hB)
    clear hB
    go_wp2_with fail
    refine (place_Log.calls _ _ _ (log_of p (by omega) (by omega))).mono ?_
    rintro e w' ⟨rfl, ⟨nd5, rfl⟩⟩
    go_wp2_with fail
    refine (place_Sectors.calls _ _ _ _ (sectors_of p b (by omega) (by omega) (by omega) (by omega))).mono ?_
    rintro e w' ⟨rfl, ⟨nd6, rfl⟩⟩
    go_wp2_with fail
    refine (place_Keys.calls k _ _ _ r _ HK1.out).mono ?_
    rintro e w4 ⟨v1, rfl, ho, hB⟩
    have HO1 := Aside0.mk (Kd.R_lower ho (below_size (by repeat (first | exact HB.out | apply pw_below_drewN | apply below_drew1 | apply below_alloc))))
    replace HB := Aside0.mk (below_step (by repeat (first | exact HB.out | apply pw_below_drewN | apply below_drew1 | apply below_alloc)) hB)
    clear hB ho
    go_wp2_with fail
    refine (phoenixref7_Keys.calls k _ _ _ r _ HK2.out).mono ?_
    rintro e w5 ⟨v2, rfl, ho, hB⟩
    replace HO1 := Aside0.mk (Kd.R_below (by (with_reducible repeat (first | apply Kd.R_alloc | apply Kd.R_drewN | apply Kd.R_drew)); exact HO1.out) hB)
    have HO2 := Aside0.mk (Kd.R_lower ho (below_size (by repeat (first | exact HB.out | apply pw_below_drewN | apply below_drew1 | apply below_alloc))))
    replace HB := Aside0.mk (below_step (by repeat (first | exact HB.out | apply pw_below_drewN | apply below_drew1 | apply below_alloc)) hB)
    clear hB ho
    obtain ⟨A1, c1, rfl⟩ := Kd.R_slice HO1.out
    obtain ⟨A2, c2, rfl⟩ := Kd.R_slice HO2.out
    go_wp2_with fail
    refine (phoenixref_SameInts.calls _ _ _ r _ _ r true _ (Kd.R_reads' HO1.out).2.2 (Kd.R_reads' HO1.out).2.1 (Kd.R_reads' HO2.out).2.2 (Kd.R_reads' HO2.out).2.1 (same_true r (by have := HL.out; omega))).mono ?_
    rintro e w' ⟨rfl, ⟨nd7, rfl⟩⟩
    go_wp2_with fail
    go_ret
    exact ⟨rfl, by repeat (first | exact HB.out | apply pw_below_drewN | apply below_drew1 | apply below_alloc)⟩


theorem says_calls (a0 a1 a2 a3 a4 : Int) (w : World) :
    Calls Try.prog 7 #[.int .i64 a0, .int .i64 a1, .int .i64 a2, .int .i64 a3, .int .i64 a4] w fun e w' => e = .returned (.bool true) ∧ Below w.heap.size w w' := by
  obtain ⟨p, hp, hp0, hp1⟩ := num_of a1 40 (by omega) (by omega)
  by_cases h : p < 1
  · exact says_core a0 a1 a2 a3 a4 p 1 hp hp0 hp1 (Or.inl ⟨h, rfl⟩) w
  · exact says_core a0 a1 a2 a3 a4 p p hp hp0 hp1 (Or.inr ⟨by omega, rfl⟩) w

end Go.Proofs.Ytfnahgmajdjepaa.WalkSays
