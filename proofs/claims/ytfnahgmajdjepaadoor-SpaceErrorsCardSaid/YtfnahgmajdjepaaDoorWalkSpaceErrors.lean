/- The walk of SpaceErrors: it answers true. No condition but that api's errors are what their text says. -/
import Derived.Test.YtfnahgmajdjepaaDoorFirst
namespace Go.Proofs.YtfnahgmajdjepaaDoor.WalkErrors
open Go.RowKit Go.Proofs.YtfnahgmajdjepaaDoorW.PrintWords Go.Proofs.YtfnahgmajdjepaaDoorW.PrintLast Go.Proofs.YtfnahgmajdjepaaDoorW.PrintMore
open Go.Proofs.YtfnahgmajdjepaaDoor.See Go.Proofs.YtfnahgmajdjepaaDoor.Space Go.Proofs.YtfnahgmajdjepaaDoor.First
set_option linter.unusedVariables false
set_option linter.unusedSimpArgs false

set_option maxHeartbeats 2000000 in
set_option maxRecDepth 100000 in
theorem core (a0 a1 a2 q : Int) (hq : a2 % 5 = q) (hq5 : q = 0 ∨ q = 1 ∨ q = 2 ∨ q = 3 ∨ q = 4) (a : Nat → Addr) (w : World) (hs : Sents w a) :
    Calls Tryd.prog 5 #[.int .i64 a0, .int .i64 a1, .int .i64 a2] w fun e w' => e = .returned (.bool true) ∧ Below w.heap.size w w' := by
  have HS := Aside0.mk hs
  have HQ := Aside0.mk hq
  obtain ⟨room, hr⟩ : ∃ r, a0 % 1000 = r := ⟨_, rfl⟩
  obtain ⟨n, hn⟩ : ∃ r, a1 % 1000 = r := ⟨_, rfl⟩
  have r0 : 0 ≤ room := by omega
  have r1 : room < 1000 := by omega
  have n0 : 0 ≤ n := by omega
  have n1 : n < 1000 := by omega
  have HR := Aside0.mk hr
  have HN := Aside0.mk hn
  have hcr : clampR room = room := by unfold clampR; rw [if_neg (by omega), if_neg (by omega)]
  have HCR := Aside0.mk hcr
  clear hs hr hn hq hcr
  rcases hq5 with rfl | rfl | rfl | rfl | rfl
  all_goals
    go_enter Tryd.func5, Tryd.ntmps5
    go_wp2_with fail
    refine (first_calls a _ HS.out).mono ?_
    rintro e w1 ⟨rfl, hb⟩
    replace HS := Aside0.mk (HS.out.below hb)
    have HB := Aside0.mk hb
    clear hb
    go_wp2_with fail
    refine (num_at _ _ _ (by omega) (by omega) HR.out _).mono ?_
    rintro e w' ⟨rfl, rfl⟩
    go_wp2_with fail
    refine (num_at _ _ _ (by omega) (by omega) HN.out _).mono ?_
    rintro e w' ⟨rfl, rfl⟩
    go_wp2_with fail
    refine (new_calls room _).mono ?_
    rintro e w2 ⟨rfl, hp, hb⟩
    rw [HCR.out] at hp
    have HP := Aside0.mk hp
    replace HS := Aside0.mk (HS.out.below hb)
    have hle : w.heap.size ≤ w1.heap.size := HB.out.size
    replace HB := Aside0.mk (below_step HB.out hb)
    clear hb hp
    go_wp2_with fail
    refine (free_calls _ _ _ _ HP.out).mono ?_
    rintro e w' ⟨rfl, rfl⟩
    go_wp2_with fail
    refine (kept_calls _ _ _ _ HP.out).mono ?_
    rintro e w' ⟨rfl, rfl⟩
    go_wp2_with fail
    refine (num_at _ _ _ (by omega) (by omega) HQ.out _).mono ?_
    rintro e w' ⟨rfl, rfl⟩
    go_wp2_with fail
    first
    | (with_reducible refine (ask_range a _ _ 0 _ HS.out (Or.inl (cntB_neg (by omega)))).mono ?_)
    | (with_reducible refine (ask_range a _ 0 _ _ HS.out (Or.inr (cntB_neg (by omega)))).mono ?_)
    | (with_reducible refine (ask_range a _ _ 0 _ HS.out (Or.inl (cntB_big (by omega)))).mono ?_)
    | (with_reducible refine (ask_full a _ _ _ _ _ _ HP.out HS.out (cntB_mk (by omega) (by omega)) (cntB_mk (by omega) (by omega)) (by omega)).mono ?_)
    rintro e w' ⟨rfl, rfl⟩
    go_wp2_with fail
    refine (new_calls _ _).mono ?_
    rintro e w3 ⟨rfl, hp, hb⟩
    have HP2 := Aside0.mk (show SP w3 w2.heap.size 1073741824 0 by rwa [show clampR (1073741824 + (n + 1)) = 1073741824 from by unfold clampR; rw [if_neg (by omega), if_pos (by omega)]] at hp)
    have hl1 : w1.heap.size < w2.heap.size := HP.out.lt
    replace HP := Aside0.mk (HP.out.below hb)
    replace HS := Aside0.mk (HS.out.below hb)
    replace HB := Aside0.mk (below_step HB.out hb)
    clear hb hp
    go_wp2_with fail
    refine (new_calls _ _).mono ?_
    rintro e w4 ⟨rfl, hp, hb⟩
    have HP3 := Aside0.mk (show SP w4 w3.heap.size 0 0 by rwa [show clampR (-(n + 1)) = 0 from by unfold clampR; rw [if_pos (by omega)]] at hp)
    have hl2 : w2.heap.size < w3.heap.size := HP2.out.lt
    replace HP := Aside0.mk (HP.out.below hb)
    replace HP2 := Aside0.mk (HP2.out.below hb)
    replace HS := Aside0.mk (HS.out.below hb)
    replace HB := Aside0.mk (below_step HB.out hb)
    clear hb hp
    go_wp2_with fail
    first
    | (with_reducible refine (is_calls a _ 102 (ev102 a) 102 _ HS.out).mono ?_)
    | (with_reducible refine (is_calls a _ 109 (ev109 a) 109 _ HS.out).mono ?_)
    rintro e w5 ⟨rfl, hb⟩
    replace HP := Aside0.mk (HP.out.below hb)
    replace HP2 := Aside0.mk (HP2.out.below hb)
    replace HP3 := Aside0.mk (HP3.out.below hb)
    replace HB := Aside0.mk (below_step HB.out hb)
    clear hb
    go_wp2_with fail
    refine (free_calls _ _ _ _ HP.out).mono ?_
    rintro e w' ⟨rfl, rfl⟩
    go_wp2_with fail
    refine (kept_calls _ _ _ _ HP.out).mono ?_
    rintro e w' ⟨rfl, rfl⟩
    go_wp2_with fail
    refine (spend_no _ _ _ _ _ HP.out (Or.inl (cntB_neg (by omega)))).mono ?_
    rintro e w' ⟨rfl, rfl⟩
    go_wp2_with fail
    refine (let_no _ _ _ _ _ HP.out (Or.inl (cntB_neg (by omega)))).mono ?_
    rintro e w' ⟨rfl, rfl⟩
    go_wp2_with fail
    refine (spend_no _ _ _ _ _ HP.out (Or.inr (by omega))).mono ?_
    rintro e w' ⟨rfl, rfl⟩
    go_wp2_with fail
    refine (spend_ok _ _ _ _ _ HP.out (by omega) (by omega) (by omega) w.heap.size hle).mono ?_
    rintro e w6 ⟨rfl, hp, hb, ho⟩
    replace HP := Aside0.mk hp
    replace HP2 := Aside0.mk (ho _ _ _ (by omega) HP2.out)
    replace HP3 := Aside0.mk (ho _ _ _ (by omega) HP3.out)
    replace HB := Aside0.mk (HB.out.trans hb)
    clear hp hb ho
    go_wp2_with fail
    refine (let_ok _ _ _ _ _ HP.out (by omega) (by omega) (by omega) (by omega) (by omega) w.heap.size hle).mono ?_
    rintro e w7 ⟨rfl, hp, hb, ho⟩
    replace HP2 := Aside0.mk (ho _ _ _ (by omega) HP2.out)
    replace HP3 := Aside0.mk (ho _ _ _ (by omega) HP3.out)
    replace HB := Aside0.mk (HB.out.trans hb)
    clear hp hb ho
    go_wp2_with fail
    refine (free_calls _ _ _ _ HP2.out).mono ?_
    rintro e w' ⟨rfl, rfl⟩
    go_wp2_with fail
    refine (free_calls _ _ _ _ HP3.out).mono ?_
    rintro e w' ⟨rfl, rfl⟩
    go_wp2_with fail
    go_ret
    exact ⟨by simp, HB.out⟩

theorem errors_calls (a0 a1 a2 : Int) (a : Nat → Addr) (w : World) (hs : Sents w a) :
    Calls Tryd.prog 5 #[.int .i64 a0, .int .i64 a1, .int .i64 a2] w fun e w' => e = .returned (.bool true) ∧ Below w.heap.size w w' :=
  core a0 a1 a2 _ rfl (by omega) a w hs

end Go.Proofs.YtfnahgmajdjepaaDoor.WalkErrors
