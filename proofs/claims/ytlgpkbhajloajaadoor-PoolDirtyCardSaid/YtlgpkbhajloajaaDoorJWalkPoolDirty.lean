/- The walk of PoolDirty: it answers true. No condition but that api's errors are what their text says. -/
import Derived.Test.YtlgpkbhajloajaaDoorJ6
import Derived.Test.YtlgpkbhajloajaaDoorJ7
namespace Go.Proofs.YtlgpkbhajloajaaDoor.WalkPoolDirty
open Go.RowKit Go.Proofs.YtlgpkbhajloajaaDoorW.PrintWords Go.Proofs.YtlgpkbhajloajaaDoorW.PrintLast Go.Proofs.YtlgpkbhajloajaaDoorW.PrintMore
open Go.Proofs.YtlgpkbhajloajaaDoor.See Go.Proofs.YtlgpkbhajloajaaDoor.Mem Go.Proofs.YtlgpkbhajloajaaDoor.Clone Go.Proofs.YtlgpkbhajloajaaDoor.Cell Go.Proofs.YtlgpkbhajloajaaDoor.Page Go.Proofs.YtlgpkbhajloajaaDoor.PageB Go.Proofs.YtlgpkbhajloajaaDoor.PageR Go.Proofs.YtlgpkbhajloajaaDoor.PageL Go.Proofs.YtlgpkbhajloajaaDoor.Disk Go.Proofs.YtlgpkbhajloajaaDoor.DiskN Go.Proofs.YtlgpkbhajloajaaDoor.DiskW Go.Proofs.YtlgpkbhajloajaaDoor.DiskS Go.Proofs.YtlgpkbhajloajaaDoor.RecD Go.Proofs.YtlgpkbhajloajaaDoor.Pool1 Go.Proofs.YtlgpkbhajloajaaDoor.Pool2 Go.Proofs.YtlgpkbhajloajaaDoor.Pool3 Go.Proofs.YtlgpkbhajloajaaDoor.Wal Go.Proofs.YtlgpkbhajloajaaDoor.WalF Go.Proofs.YtlgpkbhajloajaaDoor.Dirty Go.Proofs.YtlgpkbhajloajaaDoor.Dirty2 Go.Proofs.YtlgpkbhajloajaaDoor.SysD Go.Proofs.YtlgpkbhajloajaaDoor.SysM Go.Proofs.YtlgpkbhajloajaaDoor.PoolF Go.Proofs.YtlgpkbhajloajaaDoor.PoolE Go.Proofs.YtlgpkbhajloajaaDoor.PoolG Go.Proofs.YtlgpkbhajloajaaDoor.PoolS Go.Proofs.YtlgpkbhajloajaaDoor.Num Go.Proofs.YtlgpkbhajloajaaDoor.Fresh Go.Proofs.YtlgpkbhajloajaaDoor.FlushG Go.Proofs.YtlgpkbhajloajaaDoor.DirtD Go.Proofs.YtlgpkbhajloajaaDoor.Del
attribute [local go_sem] max2_imax min2_imin max_two min_two
set_option linter.unusedVariables false
set_option linter.unusedSimpArgs false
set_option linter.constructorNameAsVariable false

theorem sys_keep {n : Nat} {w w1 w2 : World} {pp lp dp : Nat} {S : PSys} (hb : Below n w w1) (hx : SysM (Gr (fun k => w.heap.size ≤ k) w1 w2) w2 pp lp dp S) : SysM (fun k => w.heap.size ≤ k) w2 pp lp dp S :=
  hx.mono fun k hk => by
    rcases hk with hk | ⟨h1, _⟩
    · exact hk
    · exact Nat.le_trans hb.size h1

/-- One pair. -/
theorem P2.one {w : World} {t : Nat} {v : Value} {x y : Int} (h : P2 w t v [(x, y)]) : ∃ g c, v = .slice (some ⟨g, 0, none⟩) 1 c ∧ w.cell? ⟨g, 0, none⟩ = some (.int .i64 x) ∧ w.cell? ⟨g, 1, none⟩ = some (.int .i64 y) ∧ g < w.heap.size := by
  rcases h.form with ⟨_, h0⟩ | ⟨g, c, hv, hc, hg⟩
  · cases h0
  · obtain ⟨c0, c1⟩ := hc 0 (x, y) rfl
    exact ⟨g, c, hv, c0, c1, hg⟩

set_option maxHeartbeats 8000000 in
set_option maxRecDepth 100000 in
theorem dirty_calls (a0 a1 : Int) (a : Nat → Addr) (w : World) (hs : SentsK kn8 w a) :
    Calls Tryd.prog 5 #[.int .i64 a0, .int .i64 a1] w fun e w' => e = .returned (.bool true) ∧ Below w.heap.size w w' := by
  have HS := Aside0.mk hs
  obtain ⟨n0, hn0⟩ : ∃ r, a0 % 20 = r := ⟨_, rfl⟩
  obtain ⟨fl, hfl⟩ : ∃ r, a1 % 22 = r := ⟨_, rfl⟩
  have HN0 := Aside0.mk hn0
  have HFL := Aside0.mk hfl
  have r0' : 0 ≤ n0 := by omega
  have r1' : n0 < 20 := by omega
  have f0' : 0 ≤ fl := by omega
  have f1' : fl < 22 := by omega
  clear hs hn0 hfl
  go_enter Tryd.func5, Tryd.ntmps5
  go_wp2_with fail
  refine (first_calls a _ (HS.out.sub (by decide))).mono ?_
  rintro e w1 ⟨rfl, hb⟩
  have HBA := Aside0.mk hb
  clear hb
  go_wp2_with fail
  refine (num_at _ _ _ (by omega) (by omega) HN0.out _).mono ?_
  rintro e w' ⟨rfl, rfl⟩
  obtain ⟨n, hn⟩ : ∃ n, n0 + 1 = n := ⟨_, rfl⟩
  have n1 : 1 ≤ n := by omega
  have n20 : n ≤ 20 := by omega
  go_wp2_with fail
  refine (num_at _ _ _ (by omega) (by omega) HFL.out _).mono ?_
  rintro e w' ⟨rfl, rfl⟩
  clear hn r0' r1'
  go_wp2_with fail
  refine (made_calls 2 (by decide) (by decide) _).mono ?_
  rintro e w2 ⟨dp, lp, pp, rfl, hx, hb⟩
  have HX := Aside0.mk hx
  have HB := Aside0.mk hb
  clear hb hx
  go_wp2_with fail
  refine (get_pool a _ pp lp dp _ 3 0 _ ((HS.out.below (below_step HBA.out HB.out)).sub (by decide)) (out_of ((HS.out.below HBA.out).sub (by decide))) HX.out (zdisk_loose _ _) (by decide) (by decide)).mono ?_
  rintro e w3 ⟨sl, ev, rfl, hp, hv, hx, hf⟩
  rw [get_new (by decide) (by decide) (by decide)] at hp hv hx ⊢
  have hev : ev = .nilIface := hv
  subst hev
  have HX30 := Aside0.mk (sys_keep HB.out hx)
  have HB30 := Aside0.mk (frm_below HB.out hf HB.out.size)
  obtain ⟨A3, c3, rfl, _⟩ := ow_slice hp.1
  clear hp hx hf hv
  simp only [List.length_nil]
  have HX3 := Aside0.mk (HX30.out.below (below_alloc (Below.refl _ _) (.cells #[.int .i64 0, .slice A3 0 c3] 32)))
  have HB3 := Aside0.mk (below_alloc HB30.out (.cells #[.int .i64 0, .slice A3 0 c3] 32))
  clear HX30 HB30 HX HB
  go_wp2_with fail
  go_loopg [11, 12] (n.toNat + 1) (fun kq v11 v12 w' => ∃ (i fm : Int) (S : PSys), v11 = .int .i64 fm ∧ v12 = .int .i64 i ∧ Aside0 (1 ≤ i ∧ i ≤ n + 1 ∧ (kq : Int) = n + 2 - i) ∧ Aside0 (DSt i fm S) ∧ Aside0 (SysM (fun k => w1.heap.size ≤ k) w' pp lp dp S) ∧ Aside0 (Below w1.heap.size w1 w'))
  case atStart => exact ⟨1, 0, _, rfl, rfl, ⟨by omega, by omega, by omega⟩, ⟨DirtD.start⟩, HX3, HB3⟩
  case round =>
    clear HX3 HB3
    obtain ⟨i, fm, S, rfl, rfl, HI, HD, HX, HB⟩ := hrel
    have hi1 : 1 ≤ i := HI.out.1
    by_cases hle : i ≤ n
    · have HST := Aside0.mk (step_append HD.out hi1 (by omega))
      obtain ⟨fm2, hfm2⟩ : ∃ f, (if fm = 0 then i else fm) = f := ⟨_, rfl⟩
      have HFM := Aside0.mk hfm2
      have HSS := Aside0.mk (step_set HD.out hi1 (by omega))
      have HD2 := Aside0.mk (step_two HD.out hi1 (by omega))
      have HT2 := Aside0.mk (show (S2 i fm S).t = [(3, fm2)] from by unfold S2; rw [hfm2])
      rw [hfm2] at HD2
      have HTL := Aside0.mk (show (S1 S).t.length ≤ 70000 from by show S.t.length ≤ 70000; rw [HD.out.t]; split <;> simp)
      clear hfm2
      obtain ⟨lv, hlg⟩ := HX.out.log
      have HLG := Aside0.mk hlg
      clear hlg
      go_wp2_with fail
      refine (append_log a _ lp dp _ S.l r0 _ (HS.out.below (below_step HBA.out HB.out)) HLG.out).mono ?_
      rintro e w4 ⟨rfl, v4, hl4, hf4⟩
      rw [HST.out.2.2] at hl4
      rw [HST.out.1, HST.out.2.1, show errv a none = .nilIface from rfl]
      obtain ⟨hx, hf⟩ := sys_log HX.out ⟨v4, hl4⟩ hf4
      have HX4 := Aside0.mk (show SysM (fun k => w1.heap.size ≤ k) w4 pp lp dp (S1 S) from sys_keep HB.out hx)
      have HB4 := Aside0.mk (frm_below HB.out hf HB.out.size)
      clear hl4 hf4 hx hf
      go_wp2_with fail
      refine (set_pool a _ pp lp dp _ 3 i _ [] _ ((HS.out.below (below_step HBA.out HB4.out)).sub (by decide)) HX4.out (P2.nil _ _) HTL.out).mono ?_
      rintro e w5 ⟨rfl, hx, hf⟩
      rw [HSS.out] at hx ⊢
      rw [show errv a (S2 i fm S, (none : Option Nat)).2 = .nilIface from rfl]
      have HX5 := Aside0.mk (sys_keep HB4.out hx)
      have HB5 := Aside0.mk (frm_below HB4.out hf HB4.out.size)
      clear hx hf
      go_upto_if 67 with fail
      go_cut [11] (fun s11 wx => s11 = .int .i64 fm2 ∧ wx = w5)
      case first =>
        by_cases hf0 : fm = 0
        · have q1 : (fm == 0) = true := by simp [hf0]
          have e2 : fm2 = i := by rw [← HFM.out, if_pos hf0]
          rw [q1]
          go_wp2_with fail
          go_meet
          exact ⟨by rw [e2], rfl⟩
        · have q1 : (fm == 0) = false := by simp [hf0]
          have e2 : fm2 = fm := by rw [← HFM.out, if_neg hf0]
          rw [q1]
          go_wp2_with fail
          go_meet
          exact ⟨by rw [e2], rfl⟩
      case rest =>
        obtain ⟨rfl, rfl⟩ := hcut
        go_wp2_with fail
        refine (dirty_pool HX5.out).mono ?_
        rintro e w6 ⟨v6, rfl, hp6, hb6⟩
        rw [HT2.out] at hp6
        obtain ⟨g6, c6, rfl, d0, d1, hg6⟩ := P2.one hp6
        have HX6 := Aside0.mk (HX5.out.below hb6)
        have HB6 := Aside0.mk (below_step HB5.out hb6)
        clear hp6 hb6
        by_cases hif : i = fl
        · have q1 : (i == fl) = true := by simp [hif]
          obtain ⟨S3, hq, hd3, ht3, hdn3, hre3, hrv3⟩ := step_flush HD.out hi1 (by omega) HX.out.fuse
          have HQ := Aside0.mk hq
          have HD3 := Aside0.mk hd3
          have HT3 := Aside0.mk ht3
          have HDN3 := Aside0.mk hdn3
          have HRE3 := Aside0.mk hre3
          have HRV3 := Aside0.mk hrv3
          clear hq hd3 ht3 hdn3 hre3 hrv3 hif
          go_wp2_with fail
          refine (flush_pool a _ pp lp dp _ 3 _ ((HS.out.below (below_step HBA.out HB6.out)).sub (by decide)) (out_of ((HS.out.below HBA.out).sub (by decide))) HX6.out (HD2.out.loose.mono (by omega))).mono ?_
          rintro e w7 ⟨rfl, hx, hf⟩
          rw [HQ.out] at hx ⊢
          rw [show errv a (S3, (none : Option Nat)).2 = .nilIface from rfl]
          have HX7 := Aside0.mk (sys_keep HB6.out hx)
          have HB7 := Aside0.mk (frm_below HB6.out hf HB6.out.size)
          clear hx hf d0 d1 hg6
          go_wp2_with fail
          refine (dirty_pool HX7.out).mono ?_
          rintro e w8 ⟨v8, rfl, hp8, hb8⟩
          rw [HT3.out] at hp8
          obtain ⟨A8, c8, rfl, _⟩ := ow_slice hp8.1
          have HX8 := Aside0.mk (HX7.out.below hb8)
          have HB8 := Aside0.mk (below_step HB7.out hb8)
          clear hp8 hb8
          simp only [List.length_nil]
          obtain ⟨lv8, hlg8⟩ := HX8.out.log
          have HLG8 := Aside0.mk hlg8
          clear hlg8
          go_wp2_with fail
          refine (done_log _ lp dp lv8 S3.l _ HLG8.out).mono ?_
          rintro e w9 ⟨rfl, hb9⟩
          rw [HDN3.out]
          have HX9 := Aside0.mk (HX8.out.below hb9)
          have HB9 := Aside0.mk (below_step HB8.out hb9)
          clear hb9
          go_wp2_with fail
          refine (read_disk a _ dp S3.d 3 _ ((HS.out.below (below_step HBA.out HB9.out)).sub (by decide)) HX9.out.dsk).mono ?_
          rintro e w10 ⟨v10, rfl, hbs, hb10⟩
          rw [HRE3.out, show errv a none = .nilIface from rfl]
          rw [HRV3.out] at hbs
          have HBS := Aside0.mk hbs
          have HX10 := Aside0.mk (HX9.out.below hb10)
          have HB10 := Aside0.mk (below_step HB9.out hb10)
          clear hbs hb10
          go_wp2_with fail
          refine (read_calls a _ (pageBytes i []) _ ((HS.out.below (below_step HBA.out HB10.out)).sub (by decide)) HBS.out (pageBytes_ok _ _ (by simp)).1 (pageBytes_ok _ _ (by simp)).2).mono ?_
          rintro e w11 ⟨sl11, rfl, hp11, hb11⟩
          have hpb : readPage (pageBytes i []) = some (i, []) := page_back ⟨by unfold pageOk headOk; simp; omega, fun e he => (List.not_mem_nil he).elim⟩
          rw [hpb] at hp11 ⊢
          clear hpb
          obtain ⟨A11, c11, rfl, _⟩ := ow_slice hp11.1
          have HX11 := Aside0.mk (HX10.out.below hb11)
          have HB11 := Aside0.mk (below_step HB10.out hb11)
          clear hp11 hb11
          rw [show errv a (if (some (i, ([] : List (Int × Int)))).isSome then none else some 6) = .nilIface from rfl]
          rw [show ((some (i, ([] : List (Int × Int)))).getD (0, [])).1 = i from rfl, show ((some (i, ([] : List (Int × Int)))).getD (0, [])).2.length = 0 from rfl]
          have HX12 := Aside0.mk (HX11.out.below (below_alloc (Below.refl _ _) (.cells #[.int .i64 i, .slice A11 0 c11] 32)))
          have HB12 := Aside0.mk (below_alloc HB11.out (.cells #[.int .i64 i, .slice A11 0 c11] 32))
          go_wp2_with fail
          go_roundg (gk - 1)
          case measure => have := HI.out; omega
          case rel => exact ⟨i + 1, 0, S3, rfl, rfl, ⟨by omega, by omega, by have := HI.out; omega⟩, HD3, HX12, HB12⟩
        · have q1 : (i == fl) = false := by simp [hif]
          clear hif
          go_wp2_with fail
          go_roundg (gk - 1)
          case measure => have := HI.out; omega
          case rel => exact ⟨i + 1, fm2, S2 i fm S, rfl, rfl, ⟨by omega, by omega, by have := HI.out; omega⟩, HD2, HX6, HB6⟩
    · go_wp2_with fail
      go_ret
      exact ⟨rfl, below_step HBA.out HB.out⟩

end Go.Proofs.YtlgpkbhajloajaaDoor.WalkPoolDirty
