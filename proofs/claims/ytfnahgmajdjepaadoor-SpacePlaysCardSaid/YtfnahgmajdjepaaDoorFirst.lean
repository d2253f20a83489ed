/- The contracts of phoenixworld.Number and of the chapter's examples (space). No condition but that api's errors are what their text says. -/
import Derived.Test.YtfnahgmajdjepaaDoorSpace
namespace Go.Proofs.YtfnahgmajdjepaaDoor.First
open Go.RowKit Go.Proofs.YtfnahgmajdjepaaDoorW.PrintWords Go.Proofs.YtfnahgmajdjepaaDoorW.PrintLast Go.Proofs.YtfnahgmajdjepaaDoorW.PrintMore
open Go.Proofs.YtfnahgmajdjepaaDoor.See Go.Proofs.YtfnahgmajdjepaaDoor.Space
set_option linter.unusedVariables false
set_option linter.unusedSimpArgs false

theorem tmod_lo (x b : Int) (h : 0 < b) (hn : Int.tmod x b < 0) : x % b = Int.tmod x b + b := by
  have h1 := Int.tmod_lt_of_pos x h
  have h2 := Int.lt_tmod_of_pos x h
  have hm : (Int.tmod x b) % b = x % b := by
    rw [Int.tmod_eq_emod]
    split
    · simp
    · rw [show ((b.natAbs : Int)) = b from by omega]; simp
  rw [← hm, ← Int.add_emod_right, Int.emod_eq_of_lt (by omega) (by omega)]

theorem tmod_hi (x b : Int) (h : 0 < b) (hn : ¬ Int.tmod x b < 0) : x % b = Int.tmod x b := by
  have h1 := Int.tmod_lt_of_pos x h
  have hm : (Int.tmod x b) % b = x % b := by
    rw [Int.tmod_eq_emod]
    split
    · simp
    · rw [show ((b.natAbs : Int)) = b from by omega]; simp
  rw [← hm, Int.emod_eq_of_lt (by omega) (by omega)]

theorem ret_i {a b : Int} (h : a = b) : Ending.returned (.int .i64 a) = .returned (.int .i64 b) := by rw [h]

set_option maxHeartbeats 1000000 in
set_option maxRecDepth 100000 in
theorem num_calls (x b : Int) (hb : 0 < b) (hb2 : b ≤ 4294967296) (w : World) : Calls Tryd.prog 11 #[.int .i64 x, .int .i64 b] w fun e w' => e = .returned (.int .i64 (x % b)) ∧ w = w' := by
  have h1 := Int.tmod_lt_of_pos x hb
  have h2 := Int.lt_tmod_of_pos x hb
  have hz : (b == 0) = false := by simp; omega
  by_cases h : Int.tmod x b < 0
  · rw [tmod_lo x b hb h]
    go_enter Tryd.func11, Tryd.ntmps11
    go_wp2
    go_ret
    exact ⟨by simp, rfl⟩
  · rw [tmod_hi x b hb h]
    go_enter Tryd.func11, Tryd.ntmps11
    go_wp2
    go_ret
    exact ⟨by simp, rfl⟩

theorem num_at (x b r : Int) (hb : 0 < b) (hb2 : b ≤ 4294967296) (hr : x % b = r) (w : World) : Calls Tryd.prog 11 #[.int .i64 x, .int .i64 b] w fun e w' => e = .returned (.int .i64 r) ∧ w = w' := by
  subst hr; exact num_calls x b hb hb2 w

set_option maxHeartbeats 1000000 in
set_option maxRecDepth 100000 in
theorem first_calls (a : Nat → Addr) (w : World) (hs : Sents w a) : Calls Tryd.prog 7 #[] w fun e w' => e = .returned (.bool true) ∧ Below w.heap.size w w' := by
  have HS := Aside0.mk hs
  clear hs
  go_enter Tryd.func7, Tryd.ntmps7
  go_wp2_with fail
  refine (new_calls 3 _).mono ?_
  rintro e w1 ⟨rfl, hp, hb⟩
  have HP := Aside0.mk (show SP w1 w.heap.size 3 0 from hp)
  have HB := Aside0.mk hb
  clear hp hb
  go_wp2_with fail
  refine (ask_full a _ 3 0 2 2 _ HP.out (HS.out.below HB.out) (by decide) (by decide) (by omega)).mono ?_
  rintro e w' ⟨rfl, rfl⟩
  go_wp2_with fail
  refine (is_calls a _ 109 (Or.inr ⟨8, by decide, rfl, rfl⟩) 109 _ (HS.out.below HB.out)).mono ?_
  rintro e w2 ⟨rfl, hb⟩
  replace HP := Aside0.mk (HP.out.below hb)
  replace HB := Aside0.mk (below_step HB.out hb)
  clear hb
  go_wp2_with fail
  refine (ask_ok _ 3 0 1 2 _ HP.out (by omega) (by omega) (by omega) (by decide) (by decide) (by omega) w.heap.size (Nat.le_refl _)).mono ?_
  rintro e w3 ⟨rfl, hp, hb, _⟩
  replace HP := Aside0.mk hp
  replace HB := Aside0.mk (HB.out.trans hb)
  clear hb hp
  go_wp2_with fail
  refine (free_calls _ _ _ _ HP.out).mono ?_
  rintro e w' ⟨rfl, rfl⟩
  go_wp2_with fail
  refine (kept_calls _ _ _ _ HP.out).mono ?_
  rintro e w' ⟨rfl, rfl⟩
  go_wp2_with fail
  go_ret
  exact ⟨by simp, HB.out⟩

end Go.Proofs.YtfnahgmajdjepaaDoor.First
