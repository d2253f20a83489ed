/- The walk of PlaceKeys: it answers true. No condition. -/
import Derived.Test.YtfnahgmajdjepaaKeysFacts
namespace Go.Proofs.Ytfnahgmajdjepaa.WalkKeys
open Go.RowKit Go.Proofs.Ytfnahgmajdjepaa.PPlaceSays Go.Proofs.YtfnahgmajdjepaaW.PrintWords Go.Proofs.YtfnahgmajdjepaaW.PrintLast Go.Proofs.YtfnahgmajdjepaaW.PrintMore
open Go.Proofs.Ytfnahgmajdjepaa.Facts Go.Proofs.Ytfnahgmajdjepaa.KeysFacts

set_option maxHeartbeats 1000000 in
set_option maxRecDepth 100000 in
theorem keys_calls (a0 a1 a2 : Int) (w : World) :
    Calls Try.prog 8 #[.int .i64 a0, .int .i64 a1, .int .i64 a2] w fun e w' => e = .returned (.bool true) ∧ Below w.heap.size w w' := by
  obtain ⟨key, hk, hk0, hk1⟩ := num_of a0 1048576 (by omega) (by omega)
  obtain ⟨p, hp, hp0, hp1⟩ := num_of a1 32 (by omega) (by omega)
  obtain ⟨n, hn, hn0, hn1⟩ := num_of a2 30 (by omega) (by omega)
  have HK := Aside0.mk hk
  have HP := Aside0.mk hp
  have HN := Aside0.mk hn
  clear hk hp hn
  have h1 := page_of key (p + 1)
  have hmx : mx (p + 1) 1 = p + 1 := by unfold mx; split <;> omega
  have hg0 := Int.emod_nonneg (half key) (b := p + 1) (by omega)
  have hg1 := Int.emod_lt_of_pos (half key) (b := p + 1) (by omega)
  rw [hmx] at h1
  obtain ⟨g, hg⟩ : ∃ g, 1 + half key % (p + 1) = g := ⟨_, rfl⟩
  rw [hg] at h1
  have hgp : 1 ≤ g ∧ g ≤ p + 1 := by omega
  obtain ⟨hgp0, hgp1⟩ := hgp
  clear hg hg0 hg1 hmx
  have H1 := Aside0.mk h1
  clear h1
  obtain ⟨k, m, hl, hm, hlen, hlast⟩ := keys_first (p + 1) g (n + 1) (by omega) (by omega) hgp0 hgp1 (by omega) (by omega)
  have HL := Aside0.mk hl
  have HM := Aside0.mk hm
  have HLEN := Aside0.mk hlen
  have HRD := Aside0.mk (show rd (keysTo (p + 1) g (m + 1)) n = m by rw [hlast]; have := rd_last (keysTo (p + 1) g m) m (n + 1) (by rw [← hlast]; exact hlen); rw [show n + 1 - 1 = n from by omega] at this; exact this)
  clear hl hlen hlast
  have H4 := Aside0.mk (show place_Page.f key 1 = some 1 by rw [page_of, show mx 1 1 = 1 from by decide]; simp)
  go_enter Try.func8, Try.ntmps8
  go_wp2_with fail
  refine (phoenixlaw9_first.calls true _ first_true).mono ?_
  rintro e w1 ⟨rfl, hB⟩
  have HB := Aside0.mk hB
  clear hB
  go_wp2_with fail
  refine (phoenixworld_Number.calls _ _ _ _ HK.out).mono ?_
  rintro e w' ⟨rfl, ⟨nd1, rfl⟩⟩
  go_wp2_with fail
  refine (phoenixworld_Number.calls _ _ _ _ HP.out).mono ?_
  rintro e w' ⟨rfl, ⟨nd2, rfl⟩⟩
  go_wp2_with fail
  refine (phoenixworld_Number.calls _ _ _ _ HN.out).mono ?_
  rintro e w' ⟨rfl, ⟨nd3, rfl⟩⟩
  go_wp2_with fail
  refine (place_Page.calls _ _ _ _ H1.out).mono ?_
  rintro e w2 ⟨rfl, hB⟩
  replace HB := Aside0.mk (below_step (by repeat (first | exact HB.out | apply pw_below_drewN | apply below_drew1 | apply below_alloc)) hB)
  clear hB
  go_wp2_with fail
  refine (place_Keys.calls _ _ _ _ _ _ HL.out).mono ?_
  rintro e w3 ⟨v1, rfl, ho, hB⟩
  have HO := Aside0.mk (Kd.R_lower ho (below_size (by repeat (first | exact HB.out | apply pw_below_drewN | apply below_drew1 | apply below_alloc))))
  replace HB := Aside0.mk (below_step (by repeat (first | exact HB.out | apply pw_below_drewN | apply below_drew1 | apply below_alloc)) hB)
  clear hB ho
  obtain ⟨A1, c1, rfl⟩ := Kd.R_slice HO.out
  obtain ⟨l, hl⟩ : ∃ l, keysTo (p + 1) g (m + 1) = l := ⟨_, rfl⟩
  have HE := Aside0.mk hl
  rw [hl] at HLEN HRD HO HL ⊢
  clear hl
  obtain ⟨nn, hnn⟩ := Int.eq_ofNat_of_zero_le hn0
  subst hnn
  have hlen : l.length = nn + 1 := by have := HLEN.out; omega
  have HLN := Aside0.mk hlen
  rw [hlen]
  have hR : Kd.R (Kd.int .i64) 3 w3 w.heap.size (fun _ => True) (.slice A1 (nn + 1) c1) l := by rw [← hlen]; exact HO.out
  replace HO := Aside0.mk hR
  clear hR hlen
  have b0 : ¬ g < 1 := by omega
  have b1 : ¬ p + 1 < g := by omega
  have hm0 : (m : Int) + 1 ≤ 1900 := by omega
  go_wp2_with fail
  go_loopg [10, 11] (m + 2) (fun kq v10 v11 w' => ∃ (t : Int) (i : Nat), v10 = .int .i64 t ∧ v11 = .int .i64 (i : Int) ∧ Aside0 (t = ((keysTo (p + 1) g i).length : Int)) ∧ 0 ≤ t ∧ t ≤ 2000 ∧ Aside0 (i ≤ m + 1) ∧ Aside0 (kq + i = m + 2) ∧ Aside0 (Kd.R (Kd.int .i64) 3 w' w.heap.size (fun _ => True) (.slice A1 (nn + 1) c1) l) ∧ Aside0 (Below w.heap.size w w'))
  case atStart => exact ⟨0, 0, rfl, rfl, ⟨by simp [keysTo]⟩, by omega, by omega, ⟨by omega⟩, ⟨by omega⟩, ⟨by (with_reducible repeat (first | apply Kd.R_alloc | apply Kd.R_drewN | apply Kd.R_drew)); exact HO.out⟩, ⟨by repeat (first | exact HB.out | apply pw_below_drewN | apply below_drew1 | apply below_alloc)⟩⟩
  case round =>
    clear HB HO
    obtain ⟨t, i, rfl, rfl, HT, ht0, ht1, HI, HK2, HO, HB⟩ := hrel
    have hi0 := HI.out
    have hi : (i : Int) ≤ (m : Int) + 1 := by omega
    clear hi0
    obtain ⟨ad, e, hc⟩ := Kd.at_int (Kd.R_reads' HO.out).2.2 (nn : Int) (by omega) (by have := HLN.out; omega)
    cases e
    rw [HRD.out, Int.toNat_natCast] at hc
    by_cases hlt : (i : Int) ≤ (m : Int)
    · have HPG := Aside0.mk (page_of (i : Int) (p + 1))
      have hmx : mx (p + 1) 1 = p + 1 := by unfold mx; split <;> omega
      rw [hmx] at HPG
      clear hmx
      obtain ⟨x, hx⟩ : ∃ x, 1 + half (i : Int) % (p + 1) = x := ⟨_, rfl⟩
      rw [hx] at HPG
      have HX := Aside0.mk hx
      clear hx
      by_cases hxg : x = g
      · subst hxg
        have hlm := keysTo_len_mono (p + 1) x (show i + 1 ≤ m + 1 by omega)
        have hln := len_next (p + 1) x i
        rw [HE.out, HLN.out] at hlm
        rw [if_pos HX.out] at hln
        have htn : t < (nn : Int) + 1 := by have := HT.out; omega
        have hrd := rd_next (p + 1) x (m + 1) i (by omega) HX.out
        rw [HE.out, ← HT.out] at hrd
        have HT' := Aside0.mk (show t + 1 = ((keysTo (p + 1) x (i + 1)).length : Int) by have := HT.out; omega)
        have htb : t + 1 ≤ 2000 := by have := keysTo_le (p + 1) x (i + 1); have := HT'.out; omega
        clear hlm hln HT
        obtain ⟨ad2, e, hc2⟩ := Kd.at_int (Kd.R_reads' HO.out).2.2 t ht0 (by have := HLN.out; omega)
        cases e
        rw [hrd] at hc2
        clear hrd
        have HC2 := Aside0.mk hc2
        clear hc2
        go_wp2_with fail
        refine (place_Page.calls _ _ _ _ HPG.out).mono ?_
        rintro e w5 ⟨rfl, hB⟩
        replace HO := Aside0.mk (Kd.R_below HO.out hB)
        replace HB := Aside0.mk (below_step (by repeat (first | exact HB.out | apply pw_below_drewN | apply below_drew1 | apply below_alloc)) hB)
        clear hB hc HC2
        obtain ⟨ad2, e, hc2⟩ := Kd.at_int (Kd.R_reads' HO.out).2.2 t ht0 (by have := HLN.out; omega)
        cases e
        have hrd := rd_next (p + 1) x (m + 1) i (by omega) HX.out
        rw [HE.out] at hrd
        have hte : ((keysTo (p + 1) x i).length : Int) = t := by have := HT'.out; have := len_next (p + 1) x i; rw [if_pos HX.out] at this; omega
        rw [hte] at hrd
        rw [hrd] at hc2
        clear hrd hte
        go_wp2_with fail
        go_roundg (gk - 1)
        case measure => have := HK2.out; omega
        case rel => exact ⟨t + 1, i + 1, rfl, by simp, HT', by omega, by omega, ⟨by omega⟩, ⟨by have := HK2.out; omega⟩, ⟨by (with_reducible repeat (first | apply Kd.R_alloc | apply Kd.R_drewN | apply Kd.R_drew)); exact HO.out⟩, ⟨by repeat (first | exact HB.out | apply pw_below_drewN | apply below_drew1 | apply below_alloc)⟩⟩
      · have HT' := Aside0.mk (show t = ((keysTo (p + 1) g (i + 1)).length : Int) by have := HT.out; have := len_next (p + 1) g i; rw [HX.out, if_neg hxg] at this; omega)
        clear HT
        have hb0 : (x == g) = false := beq_eq_false_iff_ne.mpr hxg
        go_wp2_with fail
        refine (place_Page.calls _ _ _ _ HPG.out).mono ?_
        rintro e w5 ⟨rfl, hB⟩
        replace HO := Aside0.mk (Kd.R_below HO.out hB)
        replace HB := Aside0.mk (below_step (by repeat (first | exact HB.out | apply pw_below_drewN | apply below_drew1 | apply below_alloc)) hB)
        clear hB hc
        go_wp2_with fail
        go_roundg (gk - 1)
        case measure => have := HK2.out; omega
        case rel => exact ⟨t, i + 1, rfl, by simp, HT', by omega, by omega, ⟨by omega⟩, ⟨by have := HK2.out; omega⟩, ⟨by (with_reducible repeat (first | apply Kd.R_alloc | apply Kd.R_drewN | apply Kd.R_drew)); exact HO.out⟩, ⟨by repeat (first | exact HB.out | apply pw_below_drewN | apply below_drew1 | apply below_alloc)⟩⟩
    · obtain rfl : i = m + 1 := by omega
      obtain rfl : t = (nn : Int) + 1 := by have := HT.out; rw [HE.out, HLN.out] at this; omega
      have HZ := Aside0.mk (keys_zero (p + 1) g (by omega) hgp0 hgp1)
      have HZ0 := Aside0.mk (keys_none0 (p + 1) 5)
      clear HT
      go_wp2_with fail
      refine (place_Keys.calls _ _ _ _ _ _ HZ.out).mono ?_
      rintro e w5 ⟨v1, rfl, ho, hB⟩
      obtain ⟨A2, c2, rfl⟩ := Kd.R_slice ho
      replace HB := Aside0.mk (below_step (by repeat (first | exact HB.out | apply pw_below_drewN | apply below_drew1 | apply below_alloc)) hB)
      clear hB ho
      go_wp2_with fail
      refine (place_Keys.calls _ _ _ _ _ _ HZ0.out).mono ?_
      rintro e w6 ⟨v2, rfl, ho, hB⟩
      obtain ⟨A3, c3, rfl⟩ := Kd.R_slice ho
      replace HB := Aside0.mk (below_step (by repeat (first | exact HB.out | apply pw_below_drewN | apply below_drew1 | apply below_alloc)) hB)
      clear hB ho
      go_wp2_with fail
      refine (place_Page.calls _ _ _ _ H4.out).mono ?_
      rintro e w7 ⟨rfl, hB⟩
      replace HB := Aside0.mk (below_step (by repeat (first | exact HB.out | apply pw_below_drewN | apply below_drew1 | apply below_alloc)) hB)
      clear hB
      go_wp2_with fail
      go_ret
      exact ⟨by simp, by repeat (first | exact HB.out | apply pw_below_drewN | apply below_drew1 | apply below_alloc)⟩

end Go.Proofs.Ytfnahgmajdjepaa.WalkKeys
