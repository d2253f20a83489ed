/- The walk of PoolAhead: it answers true. No condition but that api's errors are what their text says. -/
import Derived.Test.YtlgpkbhajloajaaDoorJ6
import Derived.Test.YtlgpkbhajloajaaDoorJ8
namespace Go.Proofs.YtlgpkbhajloajaaDoor.WalkPoolAhead
open Go.RowKit Go.Proofs.YtlgpkbhajloajaaDoorW.PrintWords Go.Proofs.YtlgpkbhajloajaaDoorW.PrintLast Go.Proofs.YtlgpkbhajloajaaDoorW.PrintMore
open Go.Proofs.YtlgpkbhajloajaaDoor.See Go.Proofs.YtlgpkbhajloajaaDoor.Mem Go.Proofs.YtlgpkbhajloajaaDoor.Clone Go.Proofs.YtlgpkbhajloajaaDoor.Cell Go.Proofs.YtlgpkbhajloajaaDoor.Page Go.Proofs.YtlgpkbhajloajaaDoor.PageB Go.Proofs.YtlgpkbhajloajaaDoor.PageR Go.Proofs.YtlgpkbhajloajaaDoor.PageL Go.Proofs.YtlgpkbhajloajaaDoor.Disk Go.Proofs.YtlgpkbhajloajaaDoor.DiskN Go.Proofs.YtlgpkbhajloajaaDoor.DiskL Go.Proofs.YtlgpkbhajloajaaDoor.DiskW Go.Proofs.YtlgpkbhajloajaaDoor.DiskS Go.Proofs.YtlgpkbhajloajaaDoor.RecD Go.Proofs.YtlgpkbhajloajaaDoor.Pool1 Go.Proofs.YtlgpkbhajloajaaDoor.Pool2 Go.Proofs.YtlgpkbhajloajaaDoor.Pool3 Go.Proofs.YtlgpkbhajloajaaDoor.Wal Go.Proofs.YtlgpkbhajloajaaDoor.WalF Go.Proofs.YtlgpkbhajloajaaDoor.Dirty Go.Proofs.YtlgpkbhajloajaaDoor.Dirty2 Go.Proofs.YtlgpkbhajloajaaDoor.SysD Go.Proofs.YtlgpkbhajloajaaDoor.SysM Go.Proofs.YtlgpkbhajloajaaDoor.PoolF Go.Proofs.YtlgpkbhajloajaaDoor.PoolE Go.Proofs.YtlgpkbhajloajaaDoor.PoolG Go.Proofs.YtlgpkbhajloajaaDoor.PoolS Go.Proofs.YtlgpkbhajloajaaDoor.PoolA Go.Proofs.YtlgpkbhajloajaaDoor.Num Go.Proofs.YtlgpkbhajloajaaDoor.Fresh Go.Proofs.YtlgpkbhajloajaaDoor.FlushG Go.Proofs.YtlgpkbhajloajaaDoor.DirtD Go.Proofs.YtlgpkbhajloajaaDoor.AheadD Go.Proofs.YtlgpkbhajloajaaDoor.Del
attribute [local go_sem] max2_imax min2_imin max_two min_two
set_option linter.unusedVariables false
set_option linter.unusedSimpArgs false
set_option linter.constructorNameAsVariable false

theorem sys_keep {n : Nat} {w w1 w2 : World} {pp lp dp : Nat} {S : PSys} (hb : Below n w w1) (hx : SysM (Gr (fun k => w.heap.size ≤ k) w1 w2) w2 pp lp dp S) : SysM (fun k => w.heap.size ≤ k) w2 pp lp dp S :=
  hx.mono fun k hk => by
    rcases hk with hk | ⟨h1, _⟩
    · exact hk
    · exact Nat.le_trans hb.size h1

theorem sys_frm {T : List Nat} {M M' : Nat → Prop} {w w' : World} {pp lp dp : Nat} {S : PSys} (h : SysM M w pp lp dp S) (hf : Frm T M' w w') (t1 : ∀ t ∈ dTags, t ∉ T) (t2 : ∀ t ∈ lTurn, t ∉ T) (t3 : ∀ t ∈ tTurn, t ∉ T) (t4 : 74 ∉ T ∧ 109 ∉ T) : SysM M w' pp lp dp S := by
  obtain ⟨h1, ⟨v, h2⟩, ⟨t, hv, fs, h3, h4⟩, h5, h6, h7, h8⟩ := h
  exact ⟨h1.frm hf t1, ⟨v, h2.frm hf t2⟩, ⟨t, hv, fs, TabM.frm h3 hf (t3 _ (by decide)) (t3 _ (by decide)), h4.frm hf t4.1 t4.2⟩, h5, h6, h7, h8⟩

/-- The array of the pages' last LSNs. -/
def lastA (lst : Int → Int) : Array Value := #[.int .i64 (lst 0), .int .i64 (lst 1), .int .i64 (lst 2), .int .i64 (lst 3), .int .i64 (lst 4), .int .i64 (lst 5)]
theorem lastA_at (lst : Int → Int) {k : Int} (h0 : 0 ≤ k) (h5 : k ≤ 5) : (lastA lst)[k.toNat]? = some (.int .i64 (lst k)) := by
  have h : k = 0 ∨ k = 1 ∨ k = 2 ∨ k = 3 ∨ k = 4 ∨ k = 5 := by omega
  rcases h with rfl | rfl | rfl | rfl | rfl | rfl <;> rfl
theorem lastA_set (lst : Int → Int) {n : Int} (v : Int) (h0 : 0 ≤ n) (h5 : n ≤ 5) : (lastA lst).setIfInBounds n.toNat (.int .i64 v) = lastA (fun k => if k = n then v else lst k) := by
  have h : n = 0 ∨ n = 1 ∨ n = 2 ∨ n = 3 ∨ n = 4 ∨ n = 5 := by omega
  rcases h with rfl | rfl | rfl | rfl | rfl | rfl <;> simp [lastA]

set_option maxHeartbeats 8000000 in
set_option maxRecDepth 100000 in
theorem ahead_calls (A : Option Addr) (cap : Nat) (xs : List Int) (hc : xs.length ≤ cap) (hm : xs.length ≤ maxLen) (a1 : Int) (hb1 : -9223372036854775808 ≤ a1) (hb2 : a1 ≤ 9223372036854775807) (a : Nat → Addr) (w : World) (hs : SentsK kn8 w a) (hr : ReadsInt w .i64 A xs.length xs) :
    Calls Tryd.prog 6 #[.slice A xs.length cap, .int .i64 a1] w fun e w' => e = .returned (.bool true) ∧ Below w.heap.size w w' := by
  unfold maxLen at hm
  have HS := Aside0.mk hs
  have HRD := Aside0.mk hr
  obtain ⟨n, hn⟩ : ∃ n, xs.length = n := ⟨_, rfl⟩
  have HN := Aside0.mk hn
  rw [hn] at hm hr ⊢
  clear hs hr hn hc
  by_cases h30 : (30 : Int) < (n : Int)
  · go_enter Tryd.func6, Tryd.ntmps6
    go_wp2_with fail
    refine (first_calls a _ (HS.out.sub (by decide))).mono ?_
    rintro e w1 ⟨rfl, hb⟩
    go_wp2_with fail
    go_ret
    exact ⟨rfl, hb⟩
  · go_enter Tryd.func6, Tryd.ntmps6
    go_wp2_with fail
    refine (first_calls a _ (HS.out.sub (by decide))).mono ?_
    rintro e w1 ⟨rfl, hb⟩
    have HBA := Aside0.mk hb
    clear hb
    go_wp2_with fail
    refine (new_disk 20 _).mono ?_
    rintro e w2 ⟨dp, rfl, hd, hb⟩
    have HD := Aside0.mk hd
    have HB := Aside0.mk hb
    clear hd hb
    go_wp2_with fail
    refine (new_log dp 6 12 0 1 _).mono ?_
    rintro e w3 ⟨rfl, hw3⟩
    have HW3 := Aside0.mk hw3
    clear hw3
    go_wp2_with fail
    refine (new_pool dp _ 2 _).mono ?_
    rintro e w4 ⟨rfl, hw4⟩
    have HW4 := Aside0.mk hw4
    rw [show imin (imax 2 1) 8 = 2 by decide] at HW4
    clear hw4
    have HB2 := Aside0.mk (show Below w2.heap.size w2 w3 by rw [HW3.out]; exact below_alloc (Below.refl _ _) _)
    have HB3 := Aside0.mk (show Below w3.heap.size w3 w4 by rw [HW4.out]; exact below_alloc (Below.refl _ _) _)
    have HX4 := Aside0.mk (show SysM (fun k => w1.heap.size ≤ k) w4 w3.heap.size w2.heap.size dp (sys0 20 6 12 2) by
      have hs1 := HB.out.size
      have hs2 := HB2.out.size
      have hp3 : w4.heap[w3.heap.size]? = some (.cells (poolCells (.slice none 0 0) dp w2.heap.size 2 (.slice none 0 0)) 79 (0, 0)) := by rw [HW4.out]; exact heap_alloc_new _ _
      have hl2 : w3.heap[w2.heap.size]? = some (.cells (logCells dp 6 12 0 1 (.slice none 0 0) 0) 101 (0, 0)) := by rw [HW3.out]; exact heap_alloc_new _ _
      have hl3 : w4.heap[w2.heap.size]? = some (.cells (logCells dp 6 12 0 1 (.slice none 0 0) 0) 101 (0, 0)) := (HB3.out.block _ (heap_lt hl2)).trans hl2
      exact sys0_mem ((HD.out.below HB2.out).below HB3.out) hl3 hp3 (by decide) (by decide) (by decide) (by omega) (by omega))
    have HB40 := Aside0.mk (below_step (below_step HB.out HB2.out) HB3.out)
    obtain ⟨lp, hlp⟩ : ∃ lp, w2.heap.size = lp := ⟨_, rfl⟩
    obtain ⟨pp, hpp⟩ : ∃ pp, w3.heap.size = pp := ⟨_, rfl⟩
    rw [hlp, hpp] at HX4
    rw [hpp]
    try rw [hlp]
    clear hlp hpp HD HB HW3 HW4 HB2 HB3
    go_wp2_with fail
    obtain ⟨b9, hb9⟩ : ∃ b9, w4.heap.size = b9 := ⟨_, rfl⟩
    have HBL0 := Aside0.mk (show (w4.alloc (.cells #[.int .i64 0, .int .i64 0, .int .i64 0, .int .i64 0, .int .i64 0, .int .i64 0] 67)).heap[b9]? = some (.cells (lastA fun _ => 0) 67 (0, 0)) from by rw [← hb9]; exact heap_alloc_new _ _)
    have HB90 := Aside0.mk (show w1.heap.size ≤ b9 from by rw [← hb9]; exact HB40.out.size)
    have HX40 := Aside0.mk (HX4.out.below (below_alloc (Below.refl _ _) (.cells #[.int .i64 0, .int .i64 0, .int .i64 0, .int .i64 0, .int .i64 0, .int .i64 0] 67)))
    have HB41 := Aside0.mk (below_alloc HB40.out (.cells #[.int .i64 0, .int .i64 0, .int .i64 0, .int .i64 0, .int .i64 0, .int .i64 0] 67))
    rw [hb9]
    clear hb9 HX4 HB40
    go_loopg [10] (n + 1) (fun kq v10 w' => ∃ (i : Int) (lst : Int → Int) (S : PSys), v10 = .int .i64 i ∧ Aside0 (0 ≤ i ∧ i ≤ n ∧ (kq : Int) = n + 1 - i) ∧ Aside0 (ASt i.toNat lst S) ∧ Aside0 (LooseLe S.d (100 * i.toNat)) ∧ Aside0 (SysM (fun k => w1.heap.size ≤ k) w' pp lp dp S) ∧ Aside0 (Below w1.heap.size w1 w') ∧ Aside0 (w'.heap[b9]? = some (.cells (lastA lst) 67 (0, 0))))
    case atStart => exact ⟨0, fun _ => 0, _, rfl, ⟨by omega, by omega, by omega⟩, ⟨agood⟩, ⟨zdisk_loose _ _⟩, HX40, HB41, HBL0⟩
    case round =>
      clear HX40 HB41 HBL0
      obtain ⟨i, lst, S, rfl, HI, HA, HLO, HX, HB, HBL⟩ := hrel
      have hi0 : 0 ≤ i := HI.out.1
      by_cases hlt : i < n
      · obtain ⟨ad, e, hc⟩ := (HRD.out.below (below_step HBA.out HB.out)).at_ i hi0 (by have := HN.out; omega)
        subst e
        obtain ⟨x, hx⟩ : ∃ x, rd xs i = x := ⟨_, rfl⟩
        rw [hx] at hc
        obtain ⟨y, hy⟩ : ∃ y, x % 5 = y := ⟨_, rfl⟩
        have HY := Aside0.mk hy
        have y0 : 0 ≤ y := by omega
        have y5 : y < 5 := by omega
        clear hx hy
        go_wp2_with fail
        refine (num_at _ _ _ (by omega) (by omega) HY.out _).mono ?_
        rintro e w' ⟨rfl, rfl⟩
        clear hc
        obtain ⟨q, hq⟩ : ∃ q, 1 + y = q := ⟨_, rfl⟩
        have q1 : 1 ≤ q := by omega
        have q5 : q ≤ 5 := by omega
        go_wp2_with fail
        clear hq y0 y5
        obtain ⟨S1', hg, hA1, f1, hf1⟩ := aget (hint := a1) HA.out q1 q5
        have HG := Aside0.mk hg
        have HA1 := Aside0.mk hA1
        have HF1 := Aside0.mk hf1
        have HLO1 := Aside0.mk (show LooseLe S1'.d (100 * i.toNat + 40) from by
          have h := getS_loose (n := q) (hint := a1) HX.out.fuse HLO.out
          rw [hg] at h
          have hl := HA.out.log.2.2.2.1
          exact h.mono (by omega))
        clear hg hA1 hf1
        refine (get_pool a _ pp lp dp _ q a1 _ ((HS.out.below (below_step HBA.out HB.out)).sub (by decide)) (out_of ((HS.out.below HBA.out).sub (by decide))) HX.out (HLO.out.mono (by omega)) (by assumption) (by assumption)).mono ?_
        rintro e w5 ⟨sl, ev, rfl, hp, hv, hx, hf⟩
        rw [HG.out] at hp hv hx ⊢
        have hev : ev = .nilIface := hv
        subst hev
        have HX5 := Aside0.mk (sys_keep HB.out hx)
        have HB5 := Aside0.mk (frm_below HB.out hf HB.out.size)
        have HBL5 := Aside0.mk (hf.at HBL.out (.inl (by decide)))
        obtain ⟨A5, c5, rfl, _⟩ := ow_slice hp.1
        have HP5 := Aside0.mk (show P2 w5 109 (.slice A5 0 c5) [] from hp)
        clear hp hx hf hv
        simp only [List.length_nil]
        obtain ⟨z, hz⟩ : ∃ z, lst q = z := ⟨_, rfl⟩
        have HZ := Aside0.mk hz
        rw [hz]
        have HX6 := Aside0.mk (HX5.out.below (below_alloc (Below.refl _ _) (.cells #[.int .i64 z, .slice A5 0 c5] 32)))
        have HB6 := Aside0.mk (below_alloc HB5.out (.cells #[.int .i64 z, .slice A5 0 c5] 32))
        have HBL6 := Aside0.mk (show (w5.alloc (.cells #[.int .i64 z, .slice A5 0 c5] 32)).heap[b9]? = some (.cells (lastA lst) 67 (0, 0)) from ((below_alloc (Below.refl _ _) _).block _ (heap_lt HBL5.out)).trans HBL5.out)
        have hcl : w5.cell? ⟨b9, q.toNat, none⟩ = some (.int .i64 z) := by
          simp only [World.cell?, HBL5.out]
          rw [lastA_at lst (by omega) q5, hz]
          simp
        have hbl9 : b9 < w5.heap.size := heap_lt HBL5.out
        have hq0 : 0 ≤ q := by omega
        have hq6 : q < 6 := by omega
        clear hz
        go_wp2_with fail
        go_quiet (fail)
        obtain ⟨b5, hb5⟩ : ∃ b, w5.heap.size = b := ⟨_, rfl⟩
        have HPG6 := Aside0.mk (show (w5.alloc (.cells #[.int .i64 z, .slice A5 0 c5] 32)).heap[b5]? = some (.cells #[.int .i64 z, .slice A5 0 c5] 32 (0, 0)) from by rw [← hb5]; exact heap_alloc_new _ _)
        have HB5S := Aside0.mk (show w1.heap.size ≤ b5 from by rw [← hb5]; exact HB5.out.size)
        have HB59 := Aside0.mk (show b9 < b5 from by rw [← hb5]; exact hbl9)
        rw [hb5]
        have HBQ := Aside0.mk (pw_below_drewN (Below.refl (w5.alloc (.cells #[.int .i64 z, .slice A5 0 c5] 32)).heap.size (w5.alloc (.cells #[.int .i64 z, .slice A5 0 c5] 32))) nq)
        have HX7 := Aside0.mk (HX6.out.below HBQ.out)
        have HB7 := Aside0.mk (pw_below_drewN HB6.out nq)
        have HP7 := Aside0.mk ((HP5.out.below (below_alloc (Below.refl _ _) (.cells #[.int .i64 z, .slice A5 0 c5] 32))).below HBQ.out)
        have HBL7 := Aside0.mk ((HBQ.out.block _ (heap_lt HBL6.out)).trans HBL6.out)
        have HPG7 := Aside0.mk ((HBQ.out.block _ (heap_lt HPG6.out)).trans HPG6.out)
        obtain ⟨wq, hwq⟩ : ∃ wq, (w5.alloc (.cells #[.int .i64 z, .slice A5 0 c5] 32)).drewN nq = wq := ⟨_, rfl⟩
        rw [hwq] at HX7 HB7 HBL7 HPG7 HP7 ⊢
        clear hwq HBQ HX6 HB6 HBL6 HPG6 HX5 HB5 HBL5 hcl hbl9 hb5 HX HB HBL
        obtain ⟨S2, lst2, HAE, HAN, HAL, HSE, HA2, HL2⟩ : ∃ (S2 : PSys) (lst2 : Int → Int), Aside0 (appendE S1'.l r0 = none) ∧ Aside0 (appendN S1'.l r0 = i + 1) ∧ Aside0 (appendL S1'.l r0 = (S1 S1').l) ∧ Aside0 (setS (S1 S1') q (i + 1) [] = (S2, none)) ∧ Aside0 (ASt (i + 1).toNat lst2 S2) ∧ Aside0 (lst2 = fun k => if k = q then i + 1 else lst k) := by
          obtain ⟨e1, e2, e3, S2, e4, e5⟩ := astep (n := q) HA1.out (by have := HI.out; omega) (by omega) q5 HF1.out
          have hi : ((i.toNat : Nat) : Int) = i := Int.toNat_of_nonneg hi0
          rw [hi] at e2 e4 e5
          exact ⟨S2, _, ⟨e1⟩, ⟨e2⟩, ⟨e3⟩, ⟨e4⟩, ⟨by rw [show (i + 1).toNat = i.toNat + 1 from by omega]; exact e5⟩, ⟨rfl⟩⟩
        have HD2 := Aside0.mk (show S2.d = S1'.d from by
          have h := HSE.out
          rw [setS_ok (S := S1 S1') (f := f1) HF1.out (by unfold pageOk headOk; simp; have := HI.out; omega)] at h
          simp only [Prod.mk.injEq] at h
          rw [← h.1]; rfl)
        have HTL := Aside0.mk (show (S1 S1').t.length ≤ 70000 from by
          have h := tab_few HA1.out
          show S1'.t.length ≤ 70000
          omega)
        obtain ⟨lv, hlg⟩ := HX7.out.log
        have HLG := Aside0.mk hlg
        clear hlg
        go_wp2_with fail
        refine (append_log a _ lp dp _ S1'.l r0 _ (HS.out.below (below_step HBA.out HB7.out)) HLG.out).mono ?_
        rintro e w8 ⟨rfl, v8, hl8, hf8⟩
        rw [HAL.out] at hl8
        rw [HAE.out, HAN.out, show errv a none = .nilIface from rfl]
        obtain ⟨hx, hf⟩ := sys_log HX7.out ⟨v8, hl8⟩ hf8
        have HX8 := Aside0.mk (show SysM (fun k => w1.heap.size ≤ k) w8 pp lp dp (S1 S1') from sys_keep HB7.out hx)
        have HB8 := Aside0.mk (frm_below HB7.out hf HB7.out.size)
        have HBL8 := Aside0.mk (hf.at HBL7.out (.inl (by decide)))
        have HPG8 := Aside0.mk (hf.at HPG7.out (.inl (by decide)))
        have HP8 := Aside0.mk (HP7.out.frm hf (by decide))
        clear hl8 hf8 hx hf HX7 HB7 HBL7 HPG7
        have hf8 : w8.frozen? ⟨b5, 0, none⟩ = false := by simp [World.frozen?, HPG8.out]
        have hpc : w8.cell? ⟨b5, 0, none⟩ = some (.int .i64 z) := by simp [World.cell?, HPG8.out]
        have hpc1 : w8.cell? ⟨b5, 1, none⟩ = some (.slice A5 0 c5) := by simp [World.cell?, HPG8.out]
        go_wp2_with fail
        have HF89 := Aside0.mk (show Frm [32] (fun k => w1.heap.size ≤ k) w8 (w8.setCell ⟨b5, 0, none⟩ (.int .i64 (i + 1))) from (Frm.refl _ _ w8).set (fun _ => ⟨HB5S.out, by rw [tag_of HPG8.out]; exact List.mem_cons_self⟩) _)
        have HX9 := Aside0.mk (sys_frm HX8.out HF89.out (by decide) (by decide) (by decide) (by decide))
        have HB9 := Aside0.mk (frm_below HB8.out HF89.out HB8.out.size)
        have HBL9 := Aside0.mk (HF89.out.at HBL8.out (.inl (by decide)))
        have HP9 := Aside0.mk (HP8.out.frm HF89.out (by decide))
        obtain ⟨w9, hw9⟩ : ∃ x, w8.setCell ⟨b5, 0, none⟩ (.int .i64 (i + 1)) = x := ⟨_, rfl⟩
        rw [hw9] at HX9 HB9 HBL9 HP9 ⊢
        clear hw9 HF89 HX8 HB8 HBL8 HPG8 hf8 hpc hpc1
        refine (set_pool a _ pp lp dp _ q (i + 1) _ [] _ ((HS.out.below (below_step HBA.out HB9.out)).sub (by decide)) HX9.out HP9.out HTL.out).mono ?_
        rintro e w10 ⟨rfl, hx, hf⟩
        rw [HSE.out] at hx ⊢
        rw [show errv a (S2, (none : Option Nat)).2 = .nilIface from rfl]
        have HX10 := Aside0.mk (sys_keep HB9.out hx)
        have HB10 := Aside0.mk (frm_below HB9.out hf HB9.out.size)
        have HBL10 := Aside0.mk (hf.at HBL9.out (.inl (by decide)))
        clear hx hf HX9 HB9 HBL9
        have hfz : w10.frozen? ⟨b9, q.toNat, none⟩ = false := by simp [World.frozen?, HBL10.out]
        have hcz : w10.cell? ⟨b9, q.toNat, none⟩ = some (.int .i64 z) := by
          simp only [World.cell?, HBL10.out]
          rw [lastA_at lst (by omega) q5, HZ.out]
          simp
        go_wp2_with fail
        have HF0 := Aside0.mk (show Frm [67] (fun k => w1.heap.size ≤ k) w10 (w10.setCell ⟨b9, q.toNat, none⟩ (.int .i64 (i + 1))) from (Frm.refl _ _ w10).set (fun _ => ⟨HB90.out, by rw [tag_of HBL10.out]; exact List.mem_cons_self⟩) _)
        have HX11 := Aside0.mk (sys_frm HX10.out HF0.out (by decide) (by decide) (by decide) (by decide))
        have HB11 := Aside0.mk (frm_below HB10.out HF0.out HB10.out.size)
        have HBL11 := Aside0.mk (show (w10.setCell ⟨b9, q.toNat, none⟩ (.int .i64 (i + 1))).heap[b9]? = some (.cells (lastA lst2) 67 (0, 0)) from by
          rw [HL2.out, ← lastA_set lst (i + 1) (by omega) q5]
          exact heap_setCell_same _ _ _ _ _ _ HBL10.out)
        obtain ⟨w11, hw11⟩ : ∃ x, w10.setCell ⟨b9, q.toNat, none⟩ (.int .i64 (i + 1)) = x := ⟨_, rfl⟩
        rw [hw11] at HX11 HB11 HBL11 ⊢
        clear hw11 HF0 HX10 HB10 HBL10 hfz hcz
        go_loopg [16] 6 (fun kq v16 w' => ∃ (k : Int), v16 = .int .i64 k ∧ Aside0 (1 ≤ k ∧ k ≤ 6 ∧ (kq : Int) = 7 - k) ∧ Aside0 (Below w11.heap.size w11 w'))
        case atStart => exact ⟨1, rfl, ⟨by omega, by omega, by omega⟩, ⟨Below.refl _ _⟩⟩
        case round =>
          obtain ⟨k, rfl, HK, HBK⟩ := hrel
          have hk0 : 1 ≤ k := HK.out.1
          have HX12 := Aside0.mk (HX11.out.below HBK.out)
          have HB12 := Aside0.mk (below_step HB11.out HBK.out)
          by_cases hk5 : k ≤ 5
          · obtain ⟨x, HX0, HXD, HRV, HRE⟩ : ∃ x : Int, Aside0 (0 ≤ x) ∧ Aside0 (x ≤ S2.l.doneN) ∧ Aside0 (readV S2.d k = pageBytes x []) ∧ Aside0 (readE S2.d k = none) := by
              obtain ⟨x, x1, x2, x3, x4⟩ := HA2.out.disk k hk0 hk5
              exact ⟨x, ⟨x1⟩, ⟨x2⟩, ⟨x3⟩, ⟨HA2.out.good.readE (by omega) (by omega)⟩⟩
            go_wp2_with fail
            refine (read_disk a _ dp S2.d k _ ((HS.out.below (below_step HBA.out HB12.out)).sub (by decide)) HX12.out.dsk).mono ?_
            rintro e w13 ⟨v13, rfl, hbs, hb13⟩
            rw [HRE.out, show errv a none = .nilIface from rfl]
            rw [HRV.out] at hbs
            have HBS := Aside0.mk hbs
            have HX13 := Aside0.mk (HX12.out.below hb13)
            have HB13 := Aside0.mk (below_step HB12.out hb13)
            have HBK13 := Aside0.mk (below_step HBK.out hb13)
            clear hbs hb13
            go_wp2_with fail
            refine (read_calls a _ (pageBytes x []) _ ((HS.out.below (below_step HBA.out HB13.out)).sub (by decide)) HBS.out (pageBytes_ok _ _ (by simp)).1 (pageBytes_ok _ _ (by simp)).2).mono ?_
            rintro e w14 ⟨sl14, rfl, hp14, hb14⟩
            have hpb : readPage (pageBytes x []) = some (x, []) := page_back ⟨by unfold pageOk headOk; simp; have := HX0.out; have := HXD.out; have := HX13.out.log; have := done_few HA2.out; omega, fun e he => (List.not_mem_nil he).elim⟩
            rw [hpb] at hp14 ⊢
            clear hpb
            obtain ⟨A14, c14, rfl, _⟩ := ow_slice hp14.1
            have HX14 := Aside0.mk (HX13.out.below hb14)
            have HB14 := Aside0.mk (below_step HB13.out hb14)
            have HBK14 := Aside0.mk (below_step HBK13.out hb14)
            clear hp14 hb14
            rw [show errv a (if (some (x, ([] : List (Int × Int)))).isSome then none else some 6) = .nilIface from rfl]
            rw [show ((some (x, ([] : List (Int × Int)))).getD (0, [])).1 = x from rfl, show ((some (x, ([] : List (Int × Int)))).getD (0, [])).2.length = 0 from rfl]
            have HX15 := Aside0.mk (HX14.out.below (below_alloc (Below.refl _ _) (.cells #[.int .i64 x, .slice A14 0 c14] 32)))
            have HB15 := Aside0.mk (below_alloc HB14.out (.cells #[.int .i64 x, .slice A14 0 c14] 32))
            have HBK15 := Aside0.mk (below_alloc HBK14.out (.cells #[.int .i64 x, .slice A14 0 c14] 32))
            obtain ⟨lv15, hlg15⟩ := HX15.out.log
            have HLG15 := Aside0.mk hlg15
            obtain ⟨dn, hdn⟩ : ∃ dn, S2.l.doneN = dn := ⟨_, rfl⟩
            have HDN := Aside0.mk hdn
            have hxd : x ≤ dn := by rw [← hdn]; exact HXD.out
            have hx0 : 0 ≤ x := HX0.out
            clear hlg15 hdn
            go_wp2_with fail
            go_region_held3 (fun w' => w'.cell? ⟨w14.heap.size, 0, none⟩ = some (.int .i64 x))
              (first | go_keep | exact hk1)
              (first | (go_at_call 22; refine (done_log _ lp dp lv15 S2.l _ (by exact HLG15.out.below (by repeat (first | exact Below.refl _ _ | apply below_drew1 | apply below_alloc)))).mono ?_; rintro e w16 ⟨rfl, hb⟩; rw [HDN.out]; have hk1 : w16.cell? ⟨w14.heap.size, 0, none⟩ = some (.int .i64 x) := pw_cell_below hb (by simp)))
            have HBK16 := Aside0.mk (below_step HBK15.out (below_step (by repeat (first | exact Below.refl (w14.alloc (.cells #[.int .i64 x, .slice A14 0 c14] 32)).heap.size _ | apply below_drew1)) hb))
            clear hb hk1
            go_wp2_with fail
            go_roundg (gk - 1)
            case measure => have := HK.out; omega
            case rel => exact ⟨k + 1, rfl, ⟨by omega, by omega, by have := HK.out; omega⟩, HBK16⟩
          · have HBL12 := Aside0.mk ((HBK.out.block _ (heap_lt HBL11.out)).trans HBL11.out)
            go_wp2_with fail
            refine (here_pool HX12.out).mono ?_
            rintro e w17 ⟨v17, rfl, h17, hb17⟩
            obtain ⟨A17, c17, rfl, _⟩ := ow_slice h17
            obtain ⟨hl, hhl⟩ : ∃ hl, (S2.here.map (·.n)).length = hl := ⟨_, rfl⟩
            have hl2 : hl ≤ 2 := by rw [← hhl, List.length_map]; exact HA2.out.few
            rw [hhl]
            have HX17 := Aside0.mk (HX12.out.below hb17)
            have HB17 := Aside0.mk (below_step HB12.out hb17)
            have HBL17 := Aside0.mk ((hb17.block _ (heap_lt HBL12.out)).trans HBL12.out)
            clear h17 hb17 hhl
            go_wp2_with fail
            go_roundg ((n : Int) - i).toNat
            case measure => have := HI.out; omega
            case rel => exact ⟨i + 1, lst2, S2, rfl, ⟨by omega, by omega, by have := HI.out; omega⟩, HA2, ⟨by rw [HD2.out]; exact HLO1.out.mono (by omega)⟩, HX17, HB17, HBL17⟩
      · obtain ⟨S2, hfa, htn, hlo, hrd⟩ := aall HA.out
        have HFA := Aside0.mk hfa
        have HTN := Aside0.mk htn
        have HLN := Aside0.mk hlo
        have HRD2 := Aside0.mk hrd
        clear hfa htn hlo hrd
        go_wp2_with fail
        refine (flushall_pool a _ pp lp dp S _ ((HS.out.below (below_step HBA.out HB.out)).sub (by decide)) (out_of ((HS.out.below HBA.out).sub (by decide))) HX.out (HLO.out.mono (by have := HI.out; omega)) (by have := HA.out.log.2.2.2.1; have := HI.out; omega)).mono ?_
        rintro e w5 ⟨rfl, hx, hf⟩
        rw [HFA.out] at hx ⊢
        rw [show errv a (S2, (none : Option Nat)).2 = .nilIface from rfl]
        have HX5 := Aside0.mk (sys_keep HB.out hx)
        have HB5 := Aside0.mk (frm_below HB.out hf HB.out.size)
        have HBL5 := Aside0.mk (hf.at HBL.out (.inl (by decide)))
        clear hx hf HX HB HBL
        go_wp2_with fail
        refine (loose_disk _ dp S2.d _ HX5.out.dsk).mono ?_
        rintro e w6 ⟨v6, rfl, hp6, hb6⟩
        rw [HLN.out] at hp6
        obtain ⟨A6, c6, rfl, _⟩ := ow_slice hp6.1
        have HX6 := Aside0.mk (HX5.out.below hb6)
        have HB6 := Aside0.mk (below_step HB5.out hb6)
        have HBL6 := Aside0.mk ((hb6.block _ (heap_lt HBL5.out)).trans HBL5.out)
        clear hp6 hb6 HX5 HB5 HBL5
        simp only [List.length_nil]
        go_wp2_with fail
        refine (dirty_pool HX6.out).mono ?_
        rintro e w7 ⟨v7, rfl, hp7, hb7⟩
        rw [HTN.out] at hp7
        obtain ⟨A7, c7, rfl, _⟩ := ow_slice hp7.1
        have HX7 := Aside0.mk (HX6.out.below hb7)
        have HB7 := Aside0.mk (below_step HB6.out hb7)
        have HBL7 := Aside0.mk ((hb7.block _ (heap_lt HBL6.out)).trans HBL6.out)
        clear hp7 hb7 HX6 HB6 HBL6
        simp only [List.length_nil]
        go_wp2_with fail
        go_loopg [21] 6 (fun kq v21 w' => ∃ (k : Int), v21 = .int .i64 k ∧ Aside0 (1 ≤ k ∧ k ≤ 6 ∧ (kq : Int) = 7 - k) ∧ Aside0 (Below w7.heap.size w7 w'))
        case atStart => exact ⟨1, rfl, ⟨by omega, by omega, by omega⟩, ⟨Below.refl _ _⟩⟩
        case round =>
          obtain ⟨k, rfl, HK, HBK⟩ := hrel
          have hk0 : 1 ≤ k := HK.out.1
          have HX12 := Aside0.mk (HX7.out.below HBK.out)
          have HB12 := Aside0.mk (below_step HB7.out HBK.out)
          have HBL12 := Aside0.mk ((HBK.out.block _ (heap_lt HBL7.out)).trans HBL7.out)
          by_cases hk5 : k ≤ 5
          · obtain ⟨HRE, HRV⟩ : Aside0 (readE S2.d k = none) ∧ Aside0 (readV S2.d k = pageBytes (lst k) []) := by
              obtain ⟨x1, x2⟩ := HRD2.out k hk0 hk5
              exact ⟨⟨x1⟩, ⟨x2⟩⟩
            obtain ⟨x, hx⟩ : ∃ x, lst k = x := ⟨_, rfl⟩
            have HXX := Aside0.mk hx
            rw [hx] at HRV
            have hx01 : 0 ≤ x ∧ x ≤ 30 := by have h1 := HA.out.lsn k; have h2 := HA.out.room; rw [hx] at h1; omega
            clear hx
            go_wp2_with fail
            refine (read_disk a _ dp S2.d k _ ((HS.out.below (below_step HBA.out HB12.out)).sub (by decide)) HX12.out.dsk).mono ?_
            rintro e w13 ⟨v13, rfl, hbs, hb13⟩
            rw [HRE.out, show errv a none = .nilIface from rfl]
            rw [HRV.out] at hbs
            have HBS := Aside0.mk hbs
            have HX13 := Aside0.mk (HX12.out.below hb13)
            have HB13 := Aside0.mk (below_step HB12.out hb13)
            have HBL13 := Aside0.mk ((hb13.block _ (heap_lt HBL12.out)).trans HBL12.out)
            have HBK13 := Aside0.mk (below_step HBK.out hb13)
            clear hbs hb13 HBL12
            go_wp2_with fail
            refine (read_calls a _ (pageBytes x []) _ ((HS.out.below (below_step HBA.out HB13.out)).sub (by decide)) HBS.out (pageBytes_ok _ _ (by simp)).1 (pageBytes_ok _ _ (by simp)).2).mono ?_
            rintro e w14 ⟨sl14, rfl, hp14, hb14⟩
            have hpb : readPage (pageBytes x []) = some (x, []) := page_back ⟨by unfold pageOk headOk; simp; omega, fun e he => (List.not_mem_nil he).elim⟩
            rw [hpb] at hp14 ⊢
            clear hpb
            obtain ⟨A14, c14, rfl, _⟩ := ow_slice hp14.1
            have HB14 := Aside0.mk (below_step HB13.out hb14)
            have HBL14 := Aside0.mk ((hb14.block _ (heap_lt HBL13.out)).trans HBL13.out)
            have HBK14 := Aside0.mk (below_step HBK13.out hb14)
            clear hp14 hb14 HBL13
            rw [show errv a (if (some (x, ([] : List (Int × Int)))).isSome then none else some 6) = .nilIface from rfl]
            rw [show ((some (x, ([] : List (Int × Int)))).getD (0, [])).1 = x from rfl, show ((some (x, ([] : List (Int × Int)))).getD (0, [])).2.length = 0 from rfl]
            have HBK15 := Aside0.mk (below_alloc HBK14.out (.cells #[.int .i64 x, .slice A14 0 c14] 32))
            have hcl : w14.cell? ⟨b9, k.toNat, none⟩ = some (.int .i64 x) := by
              simp only [World.cell?, HBL14.out]
              rw [lastA_at lst (by omega) hk5, HXX.out]
              simp
            have hbl9 : b9 < w14.heap.size := heap_lt HBL14.out
            have hk00 : 0 ≤ k := by omega
            have hk6 : k < 6 := by omega
            go_wp2_with fail
            go_quiet (fail)
            go_wp2_with fail
            go_roundg (gk - 1)
            case measure => have := HK.out; omega
            case rel => exact ⟨k + 1, rfl, ⟨by omega, by omega, by have := HK.out; omega⟩, ⟨by first | exact HBK15.out | exact pw_below_drewN HBK15.out _⟩⟩
          · go_wp2_with fail
            go_ret
            exact ⟨rfl, below_step HBA.out HB12.out⟩

end Go.Proofs.YtlgpkbhajloajaaDoor.WalkPoolAhead
