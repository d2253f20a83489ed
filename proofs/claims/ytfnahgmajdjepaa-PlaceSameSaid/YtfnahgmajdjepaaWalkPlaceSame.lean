/- The walk of PlaceSame: it answers true. No condition. -/
import Derived.Test.YtfnahgmajdjepaaPlaceFacts
namespace Go.Proofs.Ytfnahgmajdjepaa.WalkSame
open Go.RowKit Go.Proofs.Ytfnahgmajdjepaa.PPlaceSays Go.Proofs.YtfnahgmajdjepaaW.PrintWords Go.Proofs.YtfnahgmajdjepaaW.PrintLast Go.Proofs.YtfnahgmajdjepaaW.PrintMore
open Go.Proofs.Ytfnahgmajdjepaa.Facts

theorem keys_out (page p n : Int) (h : mx p 1 < page) : place_Keys.f 1 page p n = some [] := by
  unfold place_Keys.f
  have := mx1 p
  rw [if_neg (by omega)]
  have : decide (page > mx p 1) = true := by simp; omega
  rw [this]; simp [place_Keys.j0]

set_option maxHeartbeats 1000000 in
set_option maxRecDepth 100000 in
theorem same_calls (a0 a1 a2 : Int) (w : World) :
    Calls Try.prog 6 #[.int .i64 a0, .int .i64 a1, .int .i64 a2] w fun e w' => e = .returned (.bool true) ∧ Below w.heap.size w w' := by
  obtain ⟨key, hk, hk0, hk1⟩ := num_of a0 1048576 (by omega) (by omega)
  obtain ⟨p, hp, hp0, hp1⟩ := num_of a1 32 (by omega) (by omega)
  obtain ⟨n, hn, hn0, hn1⟩ := num_of a2 1000 (by omega) (by omega)
  have HK := Aside0.mk hk
  have HP := Aside0.mk hp
  have HN := Aside0.mk hn
  clear hk hp hn
  have h1 := page_of key (p + 1)
  have h2 := page_of (key + 4294967296) (p + 1)
  have h3 := page_of (key - 4294967296) (p + 1)
  rw [half_more] at h2
  rw [half_less] at h3
  generalize 1 + half key % mx (p + 1) 1 = pg at h1 h2 h3
  have H1 := Aside0.mk h1
  have H2 := Aside0.mk h2
  have H3 := Aside0.mk h3
  have H4 := Aside0.mk (show place_Page.f key (-n) = some 1 by rw [page_of, show mx (-n) 1 = 1 from by unfold mx; split <;> omega]; simp)
  have H5 := Aside0.mk (keys_out (p + 1 + 1 + n) (p + 1) 3 (by unfold mx; split <;> omega))
  clear h1 h2 h3
  go_enter Try.func6, Try.ntmps6
  go_wp2_with fail
  refine (phoenixlaw9_first.calls true _ first_true).mono ?_
  rintro e w1 ⟨rfl, hB⟩
  have HB := Aside0.mk hB
  clear hB
  go_wp2_with fail
  refine (phoenixworld_Number.calls _ _ _ _ HK.out).mono ?_
  rintro e w' ⟨rfl, ⟨nd1, rfl⟩⟩
  go_wp2_with fail
  refine (phoenixworld_Number.calls _ _ _ _ HP.out).mono ?_
  rintro e w' ⟨rfl, ⟨nd2, rfl⟩⟩
  go_wp2_with fail
  refine (phoenixworld_Number.calls _ _ _ _ HN.out).mono ?_
  rintro e w' ⟨rfl, ⟨nd3, rfl⟩⟩
  go_wp2_with fail
  refine (place_Page.calls _ _ _ _ H1.out).mono ?_
  rintro e w2 ⟨rfl, hB⟩
  replace HB := Aside0.mk (below_step (by repeat (first | exact HB.out | apply pw_below_drewN | apply below_drew1 | apply below_alloc)) hB)
  clear hB
  go_wp2_with fail
  refine (place_Page.calls _ _ _ _ H2.out).mono ?_
  rintro e w3 ⟨rfl, hB⟩
  replace HB := Aside0.mk (below_step (by repeat (first | exact HB.out | apply pw_below_drewN | apply below_drew1 | apply below_alloc)) hB)
  clear hB
  go_wp2_with fail
  refine (place_Page.calls _ _ _ _ H1.out).mono ?_
  rintro e w4 ⟨rfl, hB⟩
  replace HB := Aside0.mk (below_step (by repeat (first | exact HB.out | apply pw_below_drewN | apply below_drew1 | apply below_alloc)) hB)
  clear hB
  go_wp2_with fail
  refine (place_Page.calls _ _ _ _ H3.out).mono ?_
  rintro e w5 ⟨rfl, hB⟩
  replace HB := Aside0.mk (below_step (by repeat (first | exact HB.out | apply pw_below_drewN | apply below_drew1 | apply below_alloc)) hB)
  clear hB
  go_wp2_with fail
  refine (place_Page.calls _ _ _ _ H4.out).mono ?_
  rintro e w6 ⟨rfl, hB⟩
  replace HB := Aside0.mk (below_step (by repeat (first | exact HB.out | apply pw_below_drewN | apply below_drew1 | apply below_alloc)) hB)
  clear hB
  go_wp2_with fail
  refine (place_Keys.calls _ _ _ _ _ _ H5.out).mono ?_
  rintro e w7 ⟨v1, rfl, ho, hB⟩
  obtain ⟨A1, c1, rfl⟩ := Kd.R_slice ho
  clear ho
  replace HB := Aside0.mk (below_step (by repeat (first | exact HB.out | apply pw_below_drewN | apply below_drew1 | apply below_alloc)) hB)
  clear hB
  go_wp2_with fail
  go_ret
  exact ⟨by simp, by repeat (first | exact HB.out | apply pw_below_drewN | apply below_drew1 | apply below_alloc)⟩

end Go.Proofs.Ytfnahgmajdjepaa.WalkSame
