/- The walk of PlaceRoom: it answers true. No condition. -/
import Derived.Test.YtfnahgmajdjepaaPlaceFacts
namespace Go.Proofs.Ytfnahgmajdjepaa.WalkRoom
open Go.RowKit Go.Proofs.Ytfnahgmajdjepaa.PPlaceSays Go.Proofs.YtfnahgmajdjepaaW.PrintWords Go.Proofs.YtfnahgmajdjepaaW.PrintLast Go.Proofs.YtfnahgmajdjepaaW.PrintMore
open Go.Proofs.Ytfnahgmajdjepaa.Facts

set_option maxHeartbeats 1000000 in
set_option maxRecDepth 100000 in
theorem room_calls (a0 a1 : Int) (w : World) :
    Calls Try.prog 4 #[.int .i64 a0, .int .i64 a1] w fun e w' => e = .returned (.bool true) ∧ Below w.heap.size w w' := by
  obtain ⟨p, hp, hp0, hp1⟩ := num_of a0 32 (by omega) (by omega)
  obtain ⟨b, hb, hb0, hb1⟩ := num_of a1 64 (by omega) (by omega)
  have HP := Aside0.mk hp
  have HBL := Aside0.mk hb
  clear hp hb
  go_enter Try.func4, Try.ntmps4
  go_wp2_with fail
  refine (phoenixlaw9_first.calls true _ first_true).mono ?_
  rintro e w1 ⟨rfl, hB⟩
  have HB := Aside0.mk hB
  clear hB
  go_wp2_with fail
  refine (phoenixworld_Number.calls _ _ _ _ HP.out).mono ?_
  rintro e w' ⟨rfl, ⟨nd1, rfl⟩⟩
  go_wp2_with fail
  refine (phoenixworld_Number.calls _ _ _ _ HBL.out).mono ?_
  rintro e w' ⟨rfl, ⟨nd2, rfl⟩⟩
  go_wp2_with fail
  go_loopg [6, 7] (p + 2).toNat (fun kq v6 v7 w' => ∃ (x : Int), v6 = .int .i64 x ∧ v7 = .int .i64 x ∧ 1 ≤ x ∧ x ≤ p + 2 ∧ Aside0 ((kq : Int) = p + 3 - x) ∧ Aside0 (Below w.heap.size w w'))
  case atStart => exact ⟨1, rfl, rfl, by omega, by omega, ⟨by omega⟩, ⟨by repeat (first | exact HB.out | apply pw_below_drewN | apply below_drew1 | apply below_alloc)⟩⟩
  case round =>
    clear HB
    obtain ⟨x, rfl, rfl, hx1, hx2, HK, HB⟩ := hrel
    by_cases hlt : x ≤ p + 1
    · have hne : ¬ (x ≥ p + 2) := by omega
      go_wp2_with fail
      refine (place_Log.calls _ _ _ (log_of (p + 1) (by omega) (by omega))).mono ?_
      rintro e w' ⟨rfl, ⟨nd1, rfl⟩⟩
      go_wp2_with fail
      go_roundg (gk - 1)
      case measure => have := HK.out; omega
      case rel => exact ⟨x + 1, rfl, rfl, by omega, by omega, ⟨by have := HK.out; omega⟩, ⟨pw_below_drewN HB.out _⟩⟩
    · go_wp2_with fail
      obtain rfl : x = p + 2 := by omega
      go_loopg [6, 8] (b + 2).toNat (fun kq v6 v8 w' => ∃ (y : Int), v6 = .int .i64 (p + 2 + y) ∧ v8 = .int .i64 y ∧ 0 ≤ y ∧ y ≤ b + 1 ∧ Aside0 ((kq : Int) = b + 2 - y) ∧ Aside0 (Below w.heap.size w w'))
      case atStart => exact ⟨0, by simp, rfl, by omega, by omega, ⟨by omega⟩, HB⟩
      case round =>
        clear HB HK
        obtain ⟨y, rfl, rfl, hy1, hy2, HK, HB⟩ := hrel
        by_cases hly : y < b + 1
        · go_wp2_with fail
          refine (place_Log.calls _ _ _ (log_of (p + 1) (by omega) (by omega))).mono ?_
          rintro e w' ⟨rfl, ⟨nd1, rfl⟩⟩
          go_wp2_with fail
          refine (place_Log.calls _ _ _ (log_of (p + 1) (by omega) (by omega))).mono ?_
          rintro e w' ⟨rfl, ⟨nd2, rfl⟩⟩
          go_wp2_with fail
          refine (place_Sectors.calls _ _ _ _ (sectors_of (p + 1) (b + 1) (by omega) (by omega) (by omega) (by omega))).mono ?_
          rintro e w' ⟨rfl, ⟨nd3, rfl⟩⟩
          go_wp2_with fail
          go_roundg (gk - 1)
          case measure => have := HK.out; omega
          case rel => exact ⟨y + 1, by simp; omega, rfl, by omega, by omega, ⟨by have := HK.out; omega⟩, ⟨by repeat (first | exact HB.out | apply pw_below_drewN | apply below_drew1 | apply below_alloc)⟩⟩
        · obtain rfl : y = b + 1 := by omega
          go_wp2_with fail
          refine (place_Sectors.calls _ _ _ _ (sectors_of (p + 1) (b + 1) (by omega) (by omega) (by omega) (by omega))).mono ?_
          rintro e w' ⟨rfl, ⟨nd3, rfl⟩⟩
          go_wp2_with fail
          go_ret
          exact ⟨by simp; omega, pw_below_drewN HB.out _⟩

end Go.Proofs.Ytfnahgmajdjepaa.WalkRoom
