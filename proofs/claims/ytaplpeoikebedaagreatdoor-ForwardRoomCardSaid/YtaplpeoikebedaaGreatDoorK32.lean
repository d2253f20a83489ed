/- Joined texts: WalkForwardRoom. No condition but what each says. -/
import Derived.Test.YtaplpeoikebedaaGreatDoorK28
import Derived.Test.YtaplpeoikebedaaGreatDoorK31
namespace Go.Proofs.YtaplpeoikebedaaGreatDoor.WalkForwardRoom
open Go.RowKit Go.Maps Go.Proofs.YtaplpeoikebedaaGreatDoorW.PrintWords Go.Proofs.YtaplpeoikebedaaGreatDoorW.PrintLast Go.Proofs.YtaplpeoikebedaaGreatDoorW.PrintMore
open Go.Proofs.YtaplpeoikebedaaGreatDoor.See Go.Proofs.YtaplpeoikebedaaGreatDoor.Mem Go.Proofs.YtaplpeoikebedaaGreatDoor.Page Go.Proofs.YtaplpeoikebedaaGreatDoor.PageL Go.Proofs.YtaplpeoikebedaaGreatDoor.Disk Go.Proofs.YtaplpeoikebedaaGreatDoor.DiskN Go.Proofs.YtaplpeoikebedaaGreatDoor.RecD Go.Proofs.YtaplpeoikebedaaGreatDoor.Pool3 Go.Proofs.YtaplpeoikebedaaGreatDoor.Wal Go.Proofs.YtaplpeoikebedaaGreatDoor.Fresh Go.Proofs.YtaplpeoikebedaaGreatDoor.Num Go.Proofs.YtaplpeoikebedaaGreatDoor.SysD Go.Proofs.YtaplpeoikebedaaGreatDoor.SysM Go.Proofs.YtaplpeoikebedaaGreatDoor.StoreD Go.Proofs.YtaplpeoikebedaaGreatDoor.StoreF Go.Proofs.YtaplpeoikebedaaGreatDoor.StoreI Go.Proofs.YtaplpeoikebedaaGreatDoor.StoreJ Go.Proofs.YtaplpeoikebedaaGreatDoor.RoomD Go.Proofs.YtaplpeoikebedaaGreatDoor.SpaceT Go.Proofs.YtaplpeoikebedaaGreatDoor.FwdM Go.Proofs.YtaplpeoikebedaaGreatDoor.FwdP Go.Proofs.YtaplpeoikebedaaGreatDoor.FwdB Go.Proofs.YtaplpeoikebedaaGreatDoor.FwdU Go.Proofs.YtaplpeoikebedaaGreatDoor.First17
attribute [local go_sem] max2_imax min2_imin max_two min_two
set_option linter.unusedVariables false
set_option linter.unusedSimpArgs false
set_option maxHeartbeats 8000000 in
set_option maxRecDepth 100000 in
theorem room_calls (A : Option Addr) (cap : Nat) (xs : List Int) (hc : xs.length ≤ cap) (hm : xs.length ≤ maxLen) (a1 : Int) (hb1 : -9223372036854775808 ≤ a1) (hb2 : a1 ≤ 9223372036854775807) (a : Nat → Addr) (w : World) (hs : SentsK (List.range 18) w a) (hr : ReadsInt w .i64 A xs.length xs) :
    Calls Tryz.prog 3 #[.slice A xs.length cap, .int .i64 a1] w fun e w' => e = .returned (.bool true) ∧ Below w.heap.size w w' := by
  unfold maxLen at hm
  have HS := Aside0.mk hs.all
  have HRD := Aside0.mk hr
  obtain ⟨n, hn⟩ : ∃ n, xs.length = n := ⟨_, rfl⟩
  have HN := Aside0.mk hn
  rw [hn] at hm hr ⊢
  clear hs hr hn hc
  by_cases h40 : (40 : Int) < (n : Int)
  · go_enter Tryz.func3, Tryz.ntmps3
    go_wp2_with fail
    refine (first17_calls a _ HS.out).mono ?_
    rintro e w1 ⟨rfl, hb⟩
    go_wp2_with fail
    go_ret
    exact ⟨rfl, hb⟩
  · obtain ⟨y, hy⟩ : ∃ y, a1 % 6 = y := ⟨_, rfl⟩
    have HY := Aside0.mk hy
    have y0 : 0 ≤ y := by omega
    have y6 : y < 6 := by omega
    obtain ⟨bl, hbl⟩ : ∃ bl, 1 + y = bl := ⟨_, rfl⟩
    have hw1 : IntKind.i64.wrap (1 + y) = bl := by rw [IntKind.wrap_i64]; omega
    have HBLK := Aside0.mk (show 1 ≤ bl ∧ bl ≤ 100 by omega)
    clear hy hbl y0 y6
    go_enter Tryz.func3, Tryz.ntmps3
    go_wp2_with fail
    refine (first17_calls a _ HS.out).mono ?_
    rintro e w1 ⟨rfl, hb⟩
    have HBA := Aside0.mk hb
    have HS1 := Aside0.mk (HS.out.below hb)
    clear hb
    go_wp2_with fail
    refine (num_at _ _ _ (by omega) (by omega) HY.out _).mono ?_
    rintro e w' ⟨rfl, rfl⟩
    go_wp2_with fail
    refine (store_calls 8 bl 2 4 (by omega) HBLK.out (by omega) _).mono ?_
    rintro e w2 ⟨sp, lp, pp, dp, qp, mp, rfl, hf, hb⟩
    have HF0 := Aside0.mk hf
    have HB0 := Aside0.mk hb
    clear hf hb
    go_wp2_with fail
    go_loopg [9, 10, 11] (n + 1) (fun kq v9 v10 v11 w' => ∃ (i opn chg : Int) (F : FS), v9 = .int .i64 opn ∧ v10 = .int .i64 chg ∧ v11 = .int .i64 i ∧ Aside0 (0 ≤ i ∧ i ≤ n ∧ (kq : Int) = n + 1 - i) ∧ Aside0 (RSt (1 + 8 + bl).toNat i.toNat F opn chg) ∧ Aside0 (FwM (fun k => w1.heap.size ≤ k) w' sp lp pp dp qp mp bl 2 F) ∧ Aside0 (Below w1.heap.size w1 w'))
    case atStart => exact ⟨0, 0, 0, _, rfl, rfl, rfl, ⟨by omega, by omega, by omega⟩, ⟨room_start HBLK.out⟩, HF0, HB0⟩
    case round =>
      clear HF0 HB0
      obtain ⟨i, opn, chg, F, rfl, rfl, rfl, HI, HR, HF, HB⟩ := hrel
      have hi0 : 0 ≤ i := HI.out.1
      by_cases hlt : i < n
      · have hi40 : i < 40 := by omega
        obtain ⟨ad, e, hc⟩ := (HRD.out.below (below_step HBA.out HB.out)).at_ i hi0 (by have := HN.out; omega)
        subst e
        obtain ⟨x, hx⟩ : ∃ x, rd xs i = x := ⟨_, rfl⟩
        rw [hx] at hc
        obtain ⟨y, hy⟩ : ∃ y, x % 4 = y := ⟨_, rfl⟩
        have HY4 := Aside0.mk hy
        have y0 : 0 ≤ y := by omega
        have y4 : y < 4 := by omega
        clear hx hy
        go_wp2_with fail
        refine (num_at _ _ _ (by omega) (by omega) HY4.out _).mono ?_
        rintro e w' ⟨rfl, rfl⟩
        clear hc
        obtain ⟨fr, hfr⟩ : ∃ fr, F.free = fr := ⟨_, rfl⟩
        obtain ⟨kp, hkp⟩ : ∃ kp, F.kept = kp := ⟨_, rfl⟩
        obtain ⟨rm, hrm⟩ : ∃ rm, F.S.l.room = rm := ⟨_, rfl⟩
        obtain ⟨q1, hq1⟩ : ∃ q, 2 * opn = q := ⟨_, rfl⟩
        obtain ⟨ch, hok⟩ := HR.out.ok
        have hgr := hok.g.room
        rw [hfr, hkp, hrm] at hgr
        have hrt := (room_top hok.g)
        rw [hfr, hkp] at hrt
        have hkept := HR.out.kept
        rw [hkp] at hkept
        have hfew := HR.out.few
        have hw2 : IntKind.i64.wrap (fr + kp) = rm := by rw [IntKind.wrap_i64]; omega
        have hw3 : IntKind.i64.wrap (2 * opn) = q1 := by rw [IntKind.wrap_i64]; omega
        have hw4 : IntKind.i64.wrap (q1 + chg) = kp := by rw [IntKind.wrap_i64]; omega
        have hw5 : IntKind.i64.wrap (opn + 1) = opn + 1 := by rw [IntKind.wrap_i64]; omega
        have hw6 : IntKind.i64.wrap (chg + 1) = chg + 1 := by rw [IntKind.wrap_i64]; omega
        have HFR := Aside0.mk (And.intro hfr (And.intro hkp hrm))
        clear hq1 hkept hfew hgr hrt
        go_wp2_with fail
        refine (space_calls _ sp lp pp dp qp mp bl 2 F _ HF.out).mono ?_
        rintro e w3 ⟨rfl, hb3⟩
        rw [hfr, hkp]
        have HF3 := Aside0.mk (HF.out.below hb3)
        have HB3 := Aside0.mk (below_step HB.out hb3)
        clear hb3 hfr hkp hrm
        obtain ⟨lv, hlg⟩ := HF3.out.sys.log
        have HLG := Aside0.mk hlg
        clear hlg
        go_wp2_with fail
        refine (room_log _ lp dp lv F.S.l _ HLG.out).mono ?_
        rintro e w4 ⟨rfl, hb4⟩
        rw [HFR.out.2.2]
        have HF4 := Aside0.mk (HF3.out.below hb4)
        have HB4 := Aside0.mk (below_step HB3.out hb4)
        clear hb4 HLG
        go_wp2_with fail
        refine (txn_calls _ sp lp pp dp qp mp bl 2 F y _ HF4.out (by omega) (by omega)).mono ?_
        rintro e w5 ⟨rfl, rfl⟩
        obtain ⟨o, ho⟩ : ∃ o, F.of y = o := ⟨_, rfl⟩
        have HOF := Aside0.mk ho
        have HOK := Aside0.mk hok
        rw [ho]
        have HS4 := Aside0.mk (HS1.out.below HB4.out)
        clear hok ho
        have HSES := Aside0.mk (show F.sess = 4 from HR.out.sess)
        have HRN := Aside0.mk (room_keep HR.out)
        have HMO := Aside0.mk (show F.most < 60000 by have := HR.out.most; omega)
        by_cases ho0 : o = 0
        · have hq : (o == 0) = true := by simp [ho0]
          have HO0 := Aside0.mk (show F.of y = 0 by rw [HOF.out, ho0])
          clear ho0
          go_wp2_with fail
          refine (begin_calls a _ sp lp pp dp qp mp bl 2 F y _ _ _ _ _ HF4.out HOK.out HS4.out (out_all HS1.out) y0 (by rw [HSES.out]; omega) (by rw [HSES.out]; omega) HO0.out HMO.out).mono ?_
          rintro e w6 hpost
          rcases hpost with ⟨hge, rfl, hp⟩ | ⟨hlt3, rfl, hp⟩
          · have hd3 : decide (3 ≤ fr) = true := decide_eq_true (by rw [← HFR.out.1]; exact hge)
            have HF6 := Aside0.mk (fw_up HB4.out hp.1)
            have HB6 := Aside0.mk (HB4.out.trans (hp.2.below (fun k hk => hk) HB4.out.size))
            have HR6 := Aside0.mk (room_begin HR.out (by omega) y0 y4 HO0.out hge)
            clear hp hge
            go_wp2_with fail
            go_roundg (gk - 1)
            case measure => have := HI.out; omega
            case rel => exact ⟨i + 1, opn + 1, chg, _, rfl, rfl, rfl, ⟨by omega, by omega, by have := HI.out; omega⟩, ⟨by rw [show (i + 1).toNat = i.toNat + 1 from by omega]; exact HR6.out⟩, HF6, HB6⟩
          · have hd3 : decide (3 ≤ fr) = false := decide_eq_false (by rw [← HFR.out.1]; omega)
            have HF6 := Aside0.mk (fw_up HB4.out hp.1)
            have HB6 := Aside0.mk (HB4.out.trans (hp.2.below (fun k hk => hk) HB4.out.size))
            clear hp hlt3
            rw [show errv a (some 8) = .iface 333 (.pointer (some (a 8))) from rfl]
            go_wp2_with fail
            refine (is_calls a (.iface 333 (.pointer (some (a 8)))) 109 (.inr ⟨8, by decide, rfl, by decide⟩) 109 _ (HS1.out.below HB6.out)).mono ?_
            rintro e w7 ⟨rfl, hb7⟩
            rw [show ((109 : Int) == 109) = true from by decide]
            have HF7 := Aside0.mk (HF6.out.below hb7)
            have HB7 := Aside0.mk (below_step HB6.out hb7)
            clear hb7
            go_wp2_with fail
            go_roundg (gk - 1)
            case measure => have := HI.out; omega
            case rel => exact ⟨i + 1, opn, chg, F, rfl, rfl, rfl, ⟨by omega, by omega, by have := HI.out; omega⟩, ⟨by rw [show (i + 1).toNat = i.toNat + 1 from by omega]; exact HRN.out⟩, HF7, HB7⟩
        · have hq : (o == 0) = false := by simp [ho0]
          have HO0 := Aside0.mk (show F.of y ≠ 0 by rw [HOF.out]; exact ho0)
          obtain ⟨ya, hya⟩ : ∃ ya, 100 * y = ya := ⟨_, rfl⟩
          obtain ⟨ky, hky⟩ : ∃ ky, ya + i = ky := ⟨_, rfl⟩
          have hw7 : IntKind.i64.wrap (100 * y) = ya := by rw [IntKind.wrap_i64]; omega
          have hw8 : IntKind.i64.wrap (ya + i) = ky := by rw [IntKind.wrap_i64]; omega
          have HPC := Aside0.mk (put_calls a (fun k => w1.heap.size ≤ k) sp lp pp dp qp mp bl 2 F y ky 1 i _ _ _ _ ownR _ HF4.out HOK.out HR.out.ks (by unfold ownR; omega) HS4.out (out_all HS1.out) y0 (by rw [HSES.out]; omega) (by rw [HSES.out]; omega) (room_thas HR.out HO0.out) (by omega) (by omega) (by have := HR.out.kl; omega) (by omega) (by omega) (by omega) (by unfold is64; omega))
          have HRP := Aside0.mk (by
            have h := room_put HR.out (by omega) y0 y4 HO0.out
            rw [show ((i.toNat : Nat) : Int) = i from Int.toNat_of_nonneg hi0, show 100 * y + i = ky by omega] at h
            exact h)
          obtain ⟨R, hR⟩ : ∃ R, putR F y ky 1 i = R := ⟨_, rfl⟩
          rw [hR] at HPC HRP
          clear ho0 hya hky hR
          go_wp2_with fail
          refine HPC.out.mono ?_
          rintro e w6 ⟨rfl, hp⟩
          have HF6 := Aside0.mk (fw_up HB4.out hp.1)
          have HB6 := Aside0.mk (HB4.out.trans (hp.2.below (fun k hk => hk) HB4.out.size))
          have HS6 := Aside0.mk (HS1.out.below HB6.out)
          clear hp
          rcases HRP.out with ⟨h9, hR9⟩ | ⟨h8, hf8⟩ | ⟨h0, hf0, hR0⟩
          · rw [h9, show errv a (some 9) = .iface 333 (.pointer (some (a 9))) from rfl]
            have HR9 := Aside0.mk hR9
            clear h9 hR9
            go_wp2_with fail
            refine (is_calls a (.iface 333 (.pointer (some (a 9)))) 110 (.inr ⟨9, by decide, rfl, by decide⟩) 110 _ HS6.out).mono ?_
            rintro e w7 ⟨rfl, hb7⟩
            rw [show ((110 : Int) == 110) = true from by decide]
            have HF7 := Aside0.mk (HF6.out.below hb7)
            have HB7 := Aside0.mk (below_step HB6.out hb7)
            clear hb7
            go_wp2_with fail
            go_roundg (gk - 1)
            case measure => have := HI.out; omega
            case rel => exact ⟨i + 1, opn, chg, _, rfl, rfl, rfl, ⟨by omega, by omega, by have := HI.out; omega⟩, ⟨by rw [show (i + 1).toNat = i.toNat + 1 from by omega]; exact HR9.out⟩, HF7, HB7⟩
          · rw [h8, show errv a (some 8) = .iface 333 (.pointer (some (a 8))) from rfl]
            have hd2 : decide (2 ≤ fr) = false := decide_eq_false (by rw [← HFR.out.1]; omega)
            clear h8 hf8
            go_wp2_with fail
            refine (is_calls a (.iface 333 (.pointer (some (a 8)))) 109 (.inr ⟨8, by decide, rfl, by decide⟩) 110 _ HS6.out).mono ?_
            rintro e w7 ⟨rfl, hb7⟩
            rw [show ((109 : Int) == 110) = false from by decide]
            have HB7 := Aside0.mk (below_step HB6.out hb7)
            clear hb7
            go_wp2_with fail
            refine (is_calls a (.iface 333 (.pointer (some (a 8)))) 109 (.inr ⟨8, by decide, rfl, by decide⟩) 109 _ (HS1.out.below HB7.out)).mono ?_
            rintro e w8 ⟨rfl, hb8⟩
            rw [show ((109 : Int) == 109) = true from by decide]
            have HB8 := Aside0.mk (below_step HB7.out hb8)
            clear hb8
            go_wp2_with fail
            go_ret
            exact ⟨rfl, below_step HBA.out HB8.out⟩
          · rw [h0, show errv a none = .nilIface from rfl]
            have hd2 : decide (2 ≤ fr) = true := decide_eq_true (by rw [← HFR.out.1]; omega)
            have HR0 := Aside0.mk hR0
            clear h0 hf0 hR0
            go_wp2_with fail
            refine (is_calls a .nilIface 0 (.inl ⟨rfl, rfl⟩) 110 _ HS6.out).mono ?_
            rintro e w7 ⟨rfl, hb7⟩
            rw [show ((0 : Int) == 110) = false from by decide]
            have HF7 := Aside0.mk (HF6.out.below hb7)
            have HB7 := Aside0.mk (below_step HB6.out hb7)
            clear hb7
            go_wp2_with fail
            go_roundg (gk - 1)
            case measure => have := HI.out; omega
            case rel => exact ⟨i + 1, opn, chg + 1, _, rfl, rfl, rfl, ⟨by omega, by omega, by have := HI.out; omega⟩, ⟨by rw [show (i + 1).toNat = i.toNat + 1 from by omega]; exact HR0.out⟩, HF7, HB7⟩
      · go_wp2_with fail
        go_ret
        exact ⟨rfl, below_step HBA.out HB.out⟩
end Go.Proofs.YtaplpeoikebedaaGreatDoor.WalkForwardRoom
