/- The walk of SpaceKeeps: it answers true. No condition but that api's errors are what their text says. -/
import Derived.Test.YtfnahgmajdjepaaDoorFirst
namespace Go.Proofs.YtfnahgmajdjepaaDoor.WalkKeeps
open Go.RowKit Go.Proofs.YtfnahgmajdjepaaDoorW.PrintWords Go.Proofs.YtfnahgmajdjepaaDoorW.PrintLast Go.Proofs.YtfnahgmajdjepaaDoorW.PrintMore
open Go.Proofs.YtfnahgmajdjepaaDoor.See Go.Proofs.YtfnahgmajdjepaaDoor.Space Go.Proofs.YtfnahgmajdjepaaDoor.First
set_option linter.unusedVariables false
set_option linter.unusedSimpArgs false

theorem SP.as {w : World} {b : Nat} {f k : Int} (h : SP w b f k) {f' k' : Int} (hf : f = f') (hk : k = k') : SP w b f' k' := by subst hf; subst hk; exact h

set_option maxHeartbeats 2000000 in
set_option maxRecDepth 100000 in
theorem keeps_calls (a0 a1 a2 : Int) (a : Nat → Addr) (w : World) (hs : Sents w a) :
    Calls Tryd.prog 6 #[.int .i64 a0, .int .i64 a1, .int .i64 a2] w fun e w' => e = .returned (.bool true) ∧ Below w.heap.size w w' := by
  have HS := Aside0.mk hs
  obtain ⟨room, hr⟩ : ∃ r, a0 % 1000 = r := ⟨_, rfl⟩
  have r0 : 0 ≤ room := by omega
  have r1 : room < 1000 := by omega
  obtain ⟨keep, hk⟩ : ∃ r, a1 % (room + 1) = r := ⟨_, rfl⟩
  obtain ⟨use, hu⟩ : ∃ r, a2 % (room + 1) = r := ⟨_, rfl⟩
  have k0 : 0 ≤ keep := by rw [← hk]; exact Int.emod_nonneg _ (by omega)
  have k1 : keep < room + 1 := by rw [← hk]; exact Int.emod_lt_of_pos _ (by omega)
  have u0 : 0 ≤ use := by rw [← hu]; exact Int.emod_nonneg _ (by omega)
  have u1 : use < room + 1 := by rw [← hu]; exact Int.emod_lt_of_pos _ (by omega)
  have HR := Aside0.mk hr
  have HK := Aside0.mk hk
  have HU := Aside0.mk hu
  have HCR := Aside0.mk (show clampR room = room by unfold clampR; rw [if_neg (by omega), if_neg (by omega)])
  clear hs hr hk hu
  by_cases hfit : use ≤ room - keep
  all_goals
    go_enter Tryd.func6, Tryd.ntmps6
    go_wp2_with fail
    refine (first_calls a _ HS.out).mono ?_
    rintro e w1 ⟨rfl, hb⟩
    have HB := Aside0.mk hb
    clear hb
    go_wp2_with fail
    refine (num_at _ _ _ (by omega) (by omega) HR.out _).mono ?_
    rintro e w' ⟨rfl, rfl⟩
    go_wp2_with fail
    refine (num_at _ _ _ (by omega) (by omega) HK.out _).mono ?_
    rintro e w' ⟨rfl, rfl⟩
    go_wp2_with fail
    refine (num_at _ _ _ (by omega) (by omega) HU.out _).mono ?_
    rintro e w' ⟨rfl, rfl⟩
    go_wp2_with fail
    refine (new_calls room _).mono ?_
    rintro e w2 ⟨rfl, hp, hb⟩
    rw [HCR.out] at hp
    have HP := Aside0.mk hp
    have hle : w.heap.size ≤ w1.heap.size := HB.out.size
    replace HB := Aside0.mk (below_step HB.out hb)
    clear hb hp
    go_wp2_with fail
    refine (ask_ok _ _ _ _ _ _ HP.out (by omega) (by omega) (by omega) (cntB_mk (by omega) (by omega)) (cntB_mk (by omega) (by omega)) (by omega) w.heap.size hle).mono ?_
    rintro e w3 ⟨rfl, hp, hb, _⟩
    replace HP := Aside0.mk (SP.as hp (show room - (0 + keep) = room - keep by omega) (show 0 + keep = keep by omega))
    replace HB := Aside0.mk (HB.out.trans hb)
    clear hb hp
    go_wp2_with fail
  · refine (ask_ok _ _ _ _ _ _ HP.out (by omega) (by omega) (by omega) (cntB_mk (by omega) (by omega)) (cntB_mk (by omega) (by omega)) (by omega) w.heap.size hle).mono ?_
    rintro e w4 ⟨rfl, hp, hb, _⟩
    replace HP := Aside0.mk (SP.as hp (show room - keep - (use + 0) = room - keep - use by omega) (show keep + 0 = keep by omega))
    replace HB := Aside0.mk (HB.out.trans hb)
    clear hb hp
    go_wp2_with fail
    refine (free_calls _ _ _ _ HP.out).mono ?_
    rintro e w' ⟨rfl, rfl⟩
    go_wp2_with fail
    refine (spend_ok _ _ _ _ _ HP.out (by omega) (by omega) (by omega) w.heap.size hle).mono ?_
    rintro e w5 ⟨rfl, hp, hb, _⟩
    replace HP := Aside0.mk (SP.as hp rfl (show keep - keep = 0 by omega))
    replace HB := Aside0.mk (HB.out.trans hb)
    clear hb hp
    go_wp2_with fail
    refine (kept_calls _ _ _ _ HP.out).mono ?_
    rintro e w' ⟨rfl, rfl⟩
    go_wp2_with fail
    refine (free_calls _ _ _ _ HP.out).mono ?_
    rintro e w' ⟨rfl, rfl⟩
    go_wp2_with fail
    go_ret
    exact ⟨by simp, HB.out⟩
  · refine (ask_full a _ _ _ _ _ _ HP.out (HS.out.below HB.out) (cntB_mk (by omega) (by omega)) (cntB_mk (by omega) (by omega)) (by omega)).mono ?_
    rintro e w' ⟨rfl, rfl⟩
    go_wp2_with fail
    refine (let_ok _ _ _ _ _ HP.out (by omega) (by omega) (by omega) (by omega) (by omega) w.heap.size hle).mono ?_
    rintro e w4 ⟨rfl, hp, hb, _⟩
    replace HP := Aside0.mk (SP.as hp (show room - keep + keep = room by omega) (show keep - keep = 0 by omega))
    replace HB := Aside0.mk (HB.out.trans hb)
    clear hb hp
    go_wp2_with fail
    refine (free_calls _ _ _ _ HP.out).mono ?_
    rintro e w' ⟨rfl, rfl⟩
    go_wp2_with fail
    refine (ask_ok _ _ _ _ _ _ HP.out (by omega) (by omega) (by omega) (cntB_mk (by omega) (by omega)) (cntB_mk (by omega) (by omega)) (by omega) w.heap.size hle).mono ?_
    rintro e w5 ⟨rfl, hp, hb, _⟩
    replace HB := Aside0.mk (HB.out.trans hb)
    clear hb hp
    go_wp2_with fail
    go_ret
    exact ⟨by simp, HB.out⟩

end Go.Proofs.YtfnahgmajdjepaaDoor.WalkKeeps
