/- The walk of PoolFrames: it answers true. No condition but that api's errors are what their text says. -/
import Derived.Test.YtlgpkbhajloajaaDoorJ6
import Derived.Test.YtlgpkbhajloajaaDoorJ3
namespace Go.Proofs.YtlgpkbhajloajaaDoor.WalkPoolFrames
open Go.RowKit Go.Proofs.YtlgpkbhajloajaaDoorW.PrintWords Go.Proofs.YtlgpkbhajloajaaDoorW.PrintLast Go.Proofs.YtlgpkbhajloajaaDoorW.PrintMore
open Go.Proofs.YtlgpkbhajloajaaDoor.See Go.Proofs.YtlgpkbhajloajaaDoor.Mem Go.Proofs.YtlgpkbhajloajaaDoor.Clone Go.Proofs.YtlgpkbhajloajaaDoor.Cell Go.Proofs.YtlgpkbhajloajaaDoor.Page Go.Proofs.YtlgpkbhajloajaaDoor.PageB Go.Proofs.YtlgpkbhajloajaaDoor.PageR Go.Proofs.YtlgpkbhajloajaaDoor.PageL Go.Proofs.YtlgpkbhajloajaaDoor.Disk Go.Proofs.YtlgpkbhajloajaaDoor.DiskN Go.Proofs.YtlgpkbhajloajaaDoor.DiskW Go.Proofs.YtlgpkbhajloajaaDoor.DiskS Go.Proofs.YtlgpkbhajloajaaDoor.RecD Go.Proofs.YtlgpkbhajloajaaDoor.Pool1 Go.Proofs.YtlgpkbhajloajaaDoor.Pool2 Go.Proofs.YtlgpkbhajloajaaDoor.Pool3 Go.Proofs.YtlgpkbhajloajaaDoor.Wal Go.Proofs.YtlgpkbhajloajaaDoor.WalF Go.Proofs.YtlgpkbhajloajaaDoor.Dirty Go.Proofs.YtlgpkbhajloajaaDoor.Dirty2 Go.Proofs.YtlgpkbhajloajaaDoor.SysD Go.Proofs.YtlgpkbhajloajaaDoor.SysM Go.Proofs.YtlgpkbhajloajaaDoor.PoolF Go.Proofs.YtlgpkbhajloajaaDoor.PoolE Go.Proofs.YtlgpkbhajloajaaDoor.PoolG Go.Proofs.YtlgpkbhajloajaaDoor.PoolS Go.Proofs.YtlgpkbhajloajaaDoor.Num Go.Proofs.YtlgpkbhajloajaaDoor.Fresh Go.Proofs.YtlgpkbhajloajaaDoor.Fill Go.Proofs.YtlgpkbhajloajaaDoor.Del
attribute [local go_sem] max2_imax min2_imin max_two min_two
set_option linter.unusedVariables false
set_option linter.unusedSimpArgs false

theorem ir_take {w : World} {b g n c k : Nat} {xs : List Int} (h : IS w b (.slice (some ⟨g, 0, none⟩) n c) xs) (hk : k ≤ n) (hn : n = xs.length) (hm : n ≤ 1000000) : IR w (.slice (some ⟨g, 0, none⟩) k c) (xs.take k) := by
  have hl : (xs.take k).length = k := by rw [List.length_take]; omega
  rcases h.2 with ⟨h1, _⟩ | ⟨g', cap, cur, hv, hg, hh, hnc, hcm, hsz, htk⟩
  · cases h1
  · injection hv with h1 h2 h3
    injection h1 with h1; injection h1 with h1
    subst h1 h3
    unfold IR
    rw [hl]
    refine ⟨by simp; omega, by omega, .inr ⟨g, 0, c, cur, _, rfl, hh, by omega, hcm, by omega, ?_⟩⟩
    rw [List.drop_zero, List.map_take, ← htk, List.take_take]
    congr 1
    omega
theorem ir_drop {w : World} {b g n c k : Nat} {xs : List Int} (h : IS w b (.slice (some ⟨g, 0, none⟩) n c) xs) (hk : k ≤ n) (hn : n = xs.length) (hm : n ≤ 1000000) : IR w (.slice (some ⟨g, k, none⟩) (n - k) (c - k)) (xs.drop k) := by
  have hl : (xs.drop k).length = n - k := by rw [List.length_drop]; omega
  rcases h.2 with ⟨h1, _⟩ | ⟨g', cap, cur, hv, hg, hh, hnc, hcm, hsz, htk⟩
  · cases h1
  · injection hv with h1 h2 h3
    injection h1 with h1; injection h1 with h1
    subst h1 h3
    unfold IR
    rw [hl]
    refine ⟨by simp; omega, by omega, .inr ⟨g, k, c - k, cur, _, rfl, hh, by omega, by omega, by omega, ?_⟩⟩
    rw [List.map_drop, ← htk, List.drop_take]
    congr 1
    omega

theorem ir_empty {w : World} {b g n c : Nat} {xs : List Int} (h : IS w b (.slice (some ⟨g, 0, none⟩) n c) xs) : IR w (.slice (some ⟨g, 0, none⟩) 0 0) [] := by
  rcases h.2 with ⟨h1, _⟩ | ⟨g', cap, cur, hv, hg, hh, hnc, hcm, hsz, htk⟩
  · cases h1
  · injection hv with h1 h2 h3
    injection h1 with h1; injection h1 with h1
    subst h1
    exact ⟨by simp, by simp, .inr ⟨g, 0, 0, cur, _, rfl, hh, by simp, by unfold maxLen; omega, by simp, by simp⟩⟩
theorem map_eraseG {α β : Type} (f : α → β) : ∀ (l : List α) (k : Nat), (l.eraseIdx k).map f = (l.map f).eraseIdx k
  | [], k => rfl
  | x :: xs, 0 => rfl
  | x :: xs, k + 1 => by simp [List.eraseIdx_cons_succ, map_eraseG f xs k]

/-- What is here, page by page. -/
def sysF (hs : List Int) (frames : Int) : PSys := { sys0 20 10 9 frames with here := hs.map fun n => ⟨n, 0, []⟩ }
def stepF (hs : List Int) (frames n i : Int) : List Int := if n ∈ hs then hs else (if (hs.length : Int) = frames then hs.eraseIdx (i % frames).toNat else hs) ++ [n]

theorem findF (hs : List Int) (n : Int) : findP (hs.map fun n => (⟨n, 0, []⟩ : Fp)) n = if n ∈ hs then some ⟨n, 0, []⟩ else none := by
  induction hs with
  | nil => rfl
  | cons x xs ih =>
    unfold findP at ih ⊢
    rw [List.map_cons, List.find?_cons]
    by_cases h : x = n
    · subst h; simp
    · simp only [h, decide_false, List.mem_cons]
      rw [ih]
      by_cases h2 : n ∈ xs
      · simp [h2]
      · simp [h2, Ne.symm h]

theorem getTailF {hs : List Int} {frames n : Int} (h1 : 1 ≤ n) (h2 : n < 20) : getTail (sysF hs frames) n = (sysF (hs ++ [n]) frames, (0, []), .fine) := by
  unfold getTail
  obtain ⟨e1, e2⟩ := readE_zero (n := 20) (i := n) (by omega) (by omega)
  rw [show readE (sysF hs frames).d n = none from e1, show readV (sysF hs frames).d n = List.replicate 256 0 from e2, read_zero]
  simp [sysF]

theorem getF {hs : List Int} {frames n i : Int} (hf : 1 ≤ frames) (hl : (hs.length : Int) ≤ frames) (h1 : 1 ≤ n) (h2 : n < 20) (h0 : 0 ≤ i) : getS (sysF hs frames) n i = (sysF (stepF hs frames n i) frames, (0, []), .fine) := by
  have hfd : findP (sysF hs frames).here n = if n ∈ hs then some ⟨n, 0, []⟩ else none := findF hs n
  by_cases hm : n ∈ hs
  · rw [if_pos hm] at hfd
    rw [getS_found hfd]
    unfold stepF
    rw [if_pos hm]
  · rw [if_neg hm] at hfd
    by_cases hr : (hs.length : Int) = frames
    · have hkl : (i % frames).toNat < hs.length := by
        have := Int.emod_lt_of_pos i (show 0 < frames by omega)
        have := Int.emod_nonneg i (show frames ≠ 0 by omega)
        omega
      have hev : evictS (sysF hs frames) i = (sysF (hs.eraseIdx (i % frames).toNat) frames, none) := by
        have hk : evictK (sysF hs frames) i = (i % frames).toNat := by
          unfold evictK
          have e : (sysF hs frames).here.length = hs.length := by simp [sysF]
          rw [e]
          have : (((max i 0).toNat % hs.length : Nat) : Int) = i % frames := by
            rw [Int.natCast_emod, Int.toNat_of_nonneg (by omega), hr, show max i 0 = i by omega]
          omega
        unfold evictS
        rw [hk, show (sysF hs frames).here[(i % frames).toNat]? = some ⟨hs[(i % frames).toNat], 0, []⟩ by
          show (hs.map fun n => (⟨n, 0, []⟩ : Fp))[(i % frames).toNat]? = _
          rw [List.getElem?_map, List.getElem?_eq_getElem hkl]; rfl]
        simp only
        have hfl : flushS (sysF hs frames) hs[(i % frames).toNat] = (sysF hs frames, none) := by
          unfold flushS
          rw [show findP (sysF hs frames).here hs[(i % frames).toNat] = some ⟨hs[(i % frames).toNat], 0, []⟩ by
            rw [show (sysF hs frames).here = hs.map fun n => (⟨n, 0, []⟩ : Fp) from rfl, findF, if_pos (List.getElem_mem _)]]
          rfl
        rw [hfl]
        unfold sysF
        simp only
        rw [map_eraseG]
      rw [getS_evict hfd (by omega) (by show frames ≤ (((hs.map fun n => (⟨n, 0, []⟩ : Fp)).length : Nat) : Int); rw [List.length_map]; omega) hev, getTailF h1 h2]
      unfold stepF
      rw [if_neg hm, if_pos hr]
    · rw [getS_room hfd (by omega) (by show ¬ frames ≤ (((hs.map fun n => (⟨n, 0, []⟩ : Fp)).length : Nat) : Int); rw [List.length_map]; omega), getTailF h1 h2]
      unfold stepF
      rw [if_neg hm, if_neg hr]

theorem step_len {hs : List Int} {frames n i : Int} (hf : 1 ≤ frames) (hl : (hs.length : Int) ≤ frames) : ((stepF hs frames n i).length : Int) ≤ frames := by
  unfold stepF
  split
  · exact hl
  · split
    · rename_i h
      have hkl : (i % frames).toNat < hs.length := by
        have := Int.emod_lt_of_pos i (show 0 < frames by omega)
        have := Int.emod_nonneg i (show frames ≠ 0 by omega)
        omega
      rw [List.length_append, List.length_eraseIdx, if_pos hkl]
      simp
      omega
    · rw [List.length_append]; simp; omega

theorem hereF (hs : List Int) (fr : Int) : (sysF hs fr).here.map (·.n) = hs := by simp [sysF, Function.comp_def]

theorem sys_grown {M : Nat → Prop} {w w1 : World} {pp lp dp : Nat} {S : PSys} {r : Option Nat} (x : SysM M w pp lp dp S) (hg : w.grownBy w1 r) (h1 : ∀ k, r = some k → M k) (h2 : ∀ k, r = some k → tag w k = 3) : SysM M w1 pp lp dp S := by
  have hf : Frm [3] M w w1 := (Frm.refl [3] M w).grown hg (fun k hk hlt => ⟨h1 k hk, by rw [h2 k hk]; exact List.mem_singleton.2 rfl⟩)
  obtain ⟨x1, ⟨v, x2⟩, ⟨t, hv, fs, x3, x4⟩, x5, x6, x7, x8⟩ := x
  exact ⟨x1.frm hf (by decide), ⟨v, x2.frm hf (by decide)⟩, ⟨t, hv, fs, TabM.frm x3 hf (by decide) (by decide), x4.frm hf (by decide) (by decide)⟩, x5, x6, x7, x8⟩

theorem frames_out {K : List Nat} {w w1 : World} {a : Nat → Addr} (hs : SentsK K w a) (hb : Below w.heap.size w w1) : OutK K (fun k => w1.heap.size ≤ k) a := out_of (hs.below hb)

/-- What is here, behind a round. -/
def SysF (w0 : Nat) (w : World) (pp lp dp : Nat) (hs : List Int) (frames : Int) : Prop := SysM (fun k => w0 ≤ k) w pp lp dp (sysF hs frames)

theorem info_int' : ∃ i0, Tryd.prog.info? 3 = some i0 ∧ i0.zero = some (.int .i64 0) ∧ i0.size = 1 ∧ i0.bytes = 8 := by
  obtain ⟨i0, hi, hzz⟩ := Option.map_eq_some_iff.1 info_int
  simp only [Prod.mk.injEq] at hzz
  exact ⟨i0, hi, hzz⟩

set_option maxHeartbeats 8000000 in
set_option maxRecDepth 100000 in
theorem frames_calls (A : Option Addr) (cap : Nat) (xs : List Int) (hc : xs.length ≤ cap) (hm : xs.length ≤ maxLen) (a1 : Int) (a : Nat → Addr) (w : World) (hs : Sents w a) (hr : ReadsInt w .i64 A xs.length xs) :
    Calls Tryd.prog 3 #[.slice A xs.length cap, .int .i64 a1] w fun e w' => e = .returned (.bool true) ∧ Below w.heap.size w w' := by
  unfold maxLen at hm
  have HS := Aside0.mk hs
  have HRD := Aside0.mk hr
  obtain ⟨n, hn⟩ : ∃ n, xs.length = n := ⟨_, rfl⟩
  have HN := Aside0.mk hn
  rw [hn] at hm hr ⊢
  clear hs hr hn hc
  by_cases h40 : (40 : Int) < (n : Int)
  · go_enter Tryd.func3, Tryd.ntmps3
    go_wp2_with fail
    refine (first_calls a _ HS.out).mono ?_
    rintro e w1 ⟨rfl, hb⟩
    go_wp2_with fail
    go_ret
    exact ⟨rfl, hb⟩
  · obtain ⟨fr0, hfr⟩ : ∃ r, a1 % 8 = r := ⟨_, rfl⟩
    have HFR := Aside0.mk hfr
    have r0 : 0 ≤ fr0 := by omega
    have r1 : fr0 < 8 := by omega
    clear hfr
    go_enter Tryd.func3, Tryd.ntmps3
    go_wp2_with fail
    refine (first_calls a _ HS.out).mono ?_
    rintro e w1 ⟨rfl, hb⟩
    have HB := Aside0.mk hb
    clear hb
    go_wp2_with fail
    refine (num_at _ _ _ (by omega) (by omega) HFR.out _).mono ?_
    rintro e w' ⟨rfl, rfl⟩
    obtain ⟨fr, hfr⟩ : ∃ fr, fr0 + 1 = fr := ⟨_, rfl⟩
    have f1 : 1 ≤ fr := by omega
    have f8 : fr ≤ 8 := by omega
    have HFR2 := Aside0.mk hfr
    have HBA := Aside0.mk HB.out
    go_wp2_with fail
    clear hfr
    refine (made_calls fr f1 f8 _).mono ?_
    rintro e w2 ⟨dp, lp, pp, rfl, hx, hb⟩
    have HX := Aside0.mk (show SysM (fun k => w1.heap.size ≤ k) w2 pp lp dp (sysF [] fr) from hx)
    have HB2 := Aside0.mk (hb)
    replace HB := Aside0.mk (below_step HB.out hb)
    clear hb hx r0 r1
    go_wp2_with fail
    go_loopg [9, 10] (n + 1) (fun kq v9 v10 w' => ∃ (i : Int) (sl : Value) (hs : List Int), v9 = sl ∧ v10 = .int .i64 i ∧ Aside0 (0 ≤ i ∧ i ≤ n ∧ (kq : Int) = n + 1 - i) ∧ Aside0 (IS w' w1.heap.size sl hs) ∧ Aside0 (SysM (fun k => w1.heap.size ≤ k) w' pp lp dp (sysF hs fr)) ∧ Aside0 (Below w1.heap.size w1 w') ∧ Aside0 ((hs.length : Int) ≤ fr))
    case atStart => exact ⟨0, _, [], rfl, rfl, ⟨by omega, by omega, by omega⟩, ⟨IS.nil _ _⟩, HX, HB2, ⟨by simp; omega⟩⟩
    case round =>
      clear HB HB2 HX
      obtain ⟨i, sl, hs, rfl, rfl, HI, HSL, HX, HB, HL⟩ := hrel
      by_cases hlt : i < n
      · have hi0 : 0 ≤ i := HI.out.1
        obtain ⟨ad, e, hc⟩ := (HRD.out.below (below_step HBA.out HB.out)).at_ i hi0 (by have := HN.out; omega)
        subst e
        obtain ⟨x, hx⟩ : ∃ x, rd xs i = x := ⟨_, rfl⟩
        rw [hx] at hc
        obtain ⟨y, hy⟩ : ∃ y, x % 9 = y := ⟨_, rfl⟩
        have HY := Aside0.mk hy
        have y0 : 0 ≤ y := by omega
        have y9 : y < 9 := by omega
        obtain ⟨A9, c9, rfl, _⟩ := ow_slice HSL.out
        obtain ⟨m, hm2⟩ : ∃ m, hs.length = m := ⟨_, rfl⟩
        have HM := Aside0.mk hm2
        have hm8 : (m : Int) ≤ fr := by rw [← hm2]; exact HL.out
        rw [hm2]
        clear hx hy hm2
        go_wp2_with fail
        refine (num_at _ _ _ (by omega) (by omega) HY.out _).mono ?_
        rintro e w' ⟨rfl, rfl⟩
        clear hc
        obtain ⟨q, hq⟩ : ∃ q, 1 + y = q := ⟨_, rfl⟩
        have q1 : 1 ≤ q := by omega
        have q2 : q < 20 := by omega
        go_wp2_with fail
        clear hq y0 y9
        obtain ⟨wo, hwo⟩ : ∃ wo : World, wo = wr := ⟨_, rfl⟩
        rw [← hwo] at HX HB HSL ⊢
        clear hwo
        have HIR := Aside0.mk (IR.of HSL.out (by have := HL.out; omega))
        go_loopg [12, 13] (m + 1) (fun kq v12 v13 w' => ∃ (b : Bool) (k : Int), v12 = .bool b ∧ v13 = .int .i64 k ∧ Aside0 (0 ≤ k ∧ k ≤ m ∧ (kq : Int) = m + 1 - k) ∧ Aside0 (b = decide (q ∈ hs.take k.toNat)) ∧ w' = wo)
        case atStart => exact ⟨false, 0, rfl, rfl, ⟨by omega, by omega, by omega⟩, ⟨by simp⟩, rfl⟩
        case round =>
          obtain ⟨b, k, rfl, rfl, HK, HBQ, rfl⟩ := hrel
          have hk0 : 0 ≤ k := HK.out.1
          by_cases hkm : k < m
          · obtain ⟨h, hh⟩ : ∃ h, hs[k.toNat]? = some h := ⟨_, List.getElem?_eq_getElem (by have := HM.out; omega)⟩
            obtain ⟨g, o, hAe, _, hcc⟩ := HIR.out.at hh
            have HTK := Aside0.mk (show hs.take (k.toNat + 1) = hs.take k.toNat ++ [h] by
              obtain ⟨h1, h2⟩ := List.getElem?_eq_some_iff.1 hh
              rw [List.take_succ_eq_append_getElem h1, h2])
            clear hh
            subst hAe
            cases b with
            | true =>
              go_wp2_with fail
              go_roundg (gk - 1)
              case measure => have := HK.out; omega
              case rel => exact ⟨true, k + 1, rfl, rfl, ⟨by omega, by omega, by have := HK.out; omega⟩, ⟨by
                rw [show (k + 1).toNat = k.toNat + 1 from by omega, HTK.out]
                have := HBQ.out
                have h3 : q ∈ hs.take k.toNat := of_decide_eq_true this.symm
                exact (decide_eq_true (List.mem_append_left _ h3)).symm⟩, rfl⟩
            | false =>
              go_wp2_with fail
              go_roundg (gk - 1)
              case measure => have := HK.out; omega
              case rel => exact ⟨h == q, k + 1, rfl, rfl, ⟨by omega, by omega, by have := HK.out; omega⟩, ⟨by
                rw [show (k + 1).toNat = k.toNat + 1 from by omega, HTK.out]
                have h3 : ¬ q ∈ hs.take k.toNat := of_decide_eq_false HBQ.out.symm
                by_cases hhq : h = q
                · subst hhq; simp
                · simp [h3, hhq, Ne.symm hhq]⟩, rfl⟩
          · have HQ := Aside0.mk (show b = decide (q ∈ hs) from by
              have h := HBQ.out
              rw [List.take_of_length_le (by have := HM.out; have := HK.out; omega)] at h
              exact h)
            clear HBQ HK
            have HS2 := Aside0.mk (HS.out.below (below_step HBA.out HB.out))
            go_wp2_with fail
            refine (get_pool a _ pp lp dp _ q i _ HS2.out (frames_out HS.out HBA.out) HX.out (zdisk_loose _ _) (by omega) (by omega)).mono ?_
            rintro e w3 ⟨sl, ev, rfl, hp5, hv5, hx5, hf5⟩
            rw [getF (by omega) HL.out (by omega) (by omega) hi0] at hp5 hv5 hx5 ⊢
            have hev : ev = .nilIface := hv5
            subst hev
            obtain ⟨A5, c5, rfl, _⟩ := ow_slice hp5.1
            have HX5 := Aside0.mk (show SysM (fun k => w1.heap.size ≤ k) w3 pp lp dp (sysF (stepF hs fr q i) fr) from hx5.mono fun k hk => by
              rcases hk with hk | ⟨h1, _⟩
              · exact hk
              · exact Nat.le_trans HB.out.size h1)
            have HB5 := Aside0.mk (frm_below HB.out hf5 HB.out.size)
            have HSL5 := Aside0.mk (show IS w3 w1.heap.size (.slice A9 m c9) hs from by have h := HSL.out; rw [HM.out] at h; exact ow_frm h hf5 (by decide))
            have HL5 := Aside0.mk (step_len (n := q) (i := i) (by omega) HL.out)
            clear hp5 hv5 hx5 hf5
            simp only [List.length_nil]
            cases b with
            | true =>
              have hqm : q ∈ hs := of_decide_eq_true HQ.out.symm
              have hst : stepF hs fr q i = hs := by unfold stepF; rw [if_pos hqm]
              rw [hst] at HX5 HL5
              clear hst hqm HX HSL HB HIR
              obtain ⟨hs', hhs⟩ : ∃ hs', hs = hs' := ⟨_, rfl⟩
              rw [hhs] at HX5 HL5 HSL5
              have HX3 := Aside0.mk (HX5.out.below (below_alloc (Below.refl _ _) (.cells #[.int .i64 0, .slice A5 0 c5] 32)))
              have HSL3 := Aside0.mk (IS.below (by have h := HSL5.out; exact h) (below_alloc (Below.refl _ _) (.cells #[.int .i64 0, .slice A5 0 c5] 32)))
              have HB3 := Aside0.mk (below_alloc HB5.out (.cells #[.int .i64 0, .slice A5 0 c5] 32))
              have HL3 := HL5
              go_wp2_with fail
              refine (here_pool HX3.out).mono ?_
              rintro e w6 ⟨v6, rfl, h6, hb6⟩
              have H6 := Aside0.mk (show IS w6 _ v6 hs' from by have h := h6; rw [hereF] at h; exact h)
              have HB6 := Aside0.mk hb6
              clear h6 hb6
              go_wp2_with fail
              refine (sameints_calls v6 _ hs' hs' _ (IR.of H6.out (by have := HL3.out; omega)) (IR.of (HSL3.out.below HB6.out) (by have := HL3.out; omega))).mono ?_
              rintro e w7 ⟨rfl, hb7⟩
              rw [show decide (hs' = hs') = true from decide_eq_true rfl]
              have HB7 := Aside0.mk (below_step HB6.out hb7)
              clear hb7
              go_wp2_with fail
              go_roundg ((n : Int) + 1 - i - 1).toNat
              case measure => have := HI.out; omega
              case rel => exact ⟨i + 1, _, hs', rfl, rfl, ⟨by omega, by omega, by have := HI.out; omega⟩, ⟨HSL3.out.below HB7.out⟩, ⟨HX3.out.below HB7.out⟩, ⟨below_step HB3.out HB7.out⟩, HL3⟩
            | false =>
              have hqm : ¬ q ∈ hs := of_decide_eq_false HQ.out.symm
              have HX6 := Aside0.mk (HX5.out.below (below_alloc (Below.refl _ _) (.cells #[.int .i64 0, .slice A5 0 c5] 32)))
              have HSL6 := Aside0.mk (IS.below (by have h := HSL5.out; exact h) (below_alloc (Below.refl _ _) (.cells #[.int .i64 0, .slice A5 0 c5] 32)))
              have HB6 := Aside0.mk (below_alloc HB5.out (.cells #[.int .i64 0, .slice A5 0 c5] 32))
              clear HX5 HSL5 HB5
              by_cases hfull : (m : Int) = fr
              · have hz : (fr == 0) = false := by simp; omega
                obtain ⟨kk, hk⟩ : ∃ kk : Nat, i % fr = kk := ⟨(i % fr).toNat, by have := Int.emod_nonneg i (show fr ≠ 0 by omega); omega⟩
                have hkt : Int.tmod i fr = (kk : Int) := by rw [Int.tmod_eq_emod_of_nonneg hi0]; exact hk
                have hkm2 : kk < m := by have := Int.emod_lt_of_pos i (show 0 < fr by omega); omega
                have hst : stepF hs fr q i = hs.eraseIdx kk ++ [q] := by unfold stepF; rw [if_neg hqm, if_pos (by rw [HM.out]; exact hfull), hk]; simp
                obtain ⟨g9, c9', he9, _, _⟩ := HSL6.out.form (by have := HM.out; omega)
                injection he9 with he9 hx1 hx2
                subst he9
                clear hx1 hx2
                have HIS6 := Aside0.mk (show IS (w3.alloc (.cells #[.int .i64 0, .slice A5 0 c5] 32)) w1.heap.size (.slice (some ⟨g9, 0, none⟩) m c9) hs from HSL6.out)
                have hmc : m ≤ c9 ∧ c9 ≤ maxLen := by
                  rcases HIS6.out.2 with ⟨h1, _⟩ | ⟨g', cap, cur, hv, hg, hh, hnc, hcm, hsz, htk⟩
                  · cases h1
                  · injection hv with h1 h2 h3
                    subst h3
                    exact ⟨by have := HM.out; omega, hcm⟩
                unfold maxLen at hmc
                rw [hst] at HX6 HL5
                have HFULL := Aside0.mk hfull
                clear hst hqm HX HSL HB HIR hk
                have qf : ((m : Int) == fr) = true := by simp [hfull]
                have hk0' : (0 : Int) ≤ (kk : Int) := by omega
                have hkc : (kk : Int) ≤ (c9 : Int) := by omega
                have hkm3 : kk ≤ m := by omega
                clear hfull
                go_wp2_with fail
                refine (ints_calls _ (hs.take kk) _ (ir_take HIS6.out hkm3 HM.out.symm (by omega))).mono ?_
                rintro e w4 ⟨v4, rfl, h4, hb4⟩
                obtain ⟨A4, c4, rfl, _⟩ := ow_slice h4
                have hlt4 : (hs.take kk).length = kk := by rw [List.length_take]; have := HM.out; omega
                have HB4 := Aside0.mk (below_step HB6.out hb4)
                have HX4 := Aside0.mk (HX6.out.below hb4)
                have HO4 := Aside0.mk (show w4.ownsRow w1.heap.size 3 1 (.slice A4 kk c4) kk ((hs.take kk).map (.int .i64)) from by
                  have h := ow_base h4 HB6.out.size
                  rw [hlt4] at h
                  exact h)
                have HIS4 := Aside0.mk (IS.below HIS6.out hb4)
                rw [hlt4]
                clear h4 hb4 hlt4 HSL6 HX6 HB6
                obtain ⟨i0, hi, hz0, hz1, hz2⟩ := info_int'
                have hs1 : (kk : Int) + 1 ≤ (m : Int) := by omega
                have hs2 : (0 : Int) ≤ (kk : Int) + 1 := by omega
                have hs3 : (m : Int) ≤ (c9 : Int) := by omega
                by_cases hcc : c9 = kk + 1
                · have hmk : m = kk + 1 := by omega
                  subst hcc
                  subst hmk
                  have HRD4 := Aside0.mk (ir_empty HIS4.out)
                  have HDR := Aside0.mk (show hs.drop (kk + 1) = [] from List.drop_of_length_le (by have := HM.out; omega))
                  go_wp2_with (at_builtin; refine wpList_append_any_rd _ (by rfl) _ _ 22 (by rfl) w1.heap.size 3 i0 (.int .i64 0) 1 8 Tryd.underlying22 hi hz0 hz1 hz2 rfl (by decide) _ kk ((hs.take kk).map (.int .i64)) (by rfl) HO4.out (some ⟨g9, 0, none⟩) 0 0 (([] : List Int).map (.int .i64)) (by rfl) (by have h := HRD4.out; unfold IR at h; skip; exact h) (by intro u hu; obtain ⟨x, _, rfl⟩ := List.mem_map.1 hu; rfl) (by unfold maxLen; omega) (by omega) HB4.out.size ?_)
                  intro v5 w5 hown hgr
                  have HB5 := Aside0.mk (show Below w1.heap.size w1 w5 from HB4.out.grown hgr HB4.out.size (fun k hk => (ow_block HO4.out hk).1))
                  have HX5 := Aside0.mk (sys_grown HX4.out hgr (fun k hk => (ow_block HO4.out hk).1) (fun k hk => by
                    obtain ⟨_, c, hc⟩ := ow_block HO4.out hk
                    exact tag_of hc))
                  have HO5 := Aside0.mk (show w5.ownsRow w1.heap.size 3 1 v5 kk ((hs.eraseIdx kk).map (.int .i64)) from by
                    rw [List.eraseIdx_eq_take_drop_succ, List.map_append, HDR.out]
                    simpa using hown)
                  clear hown hgr hi hz0 hz1 hz2
                  obtain ⟨A5', c5', rfl, _⟩ := ow_slice HO5.out
                  obtain ⟨i0, hi, hz0, hz1, hz2⟩ := info_int'
                  have hn5 : kk ≤ 1000000 := by omega
                  go_wp2_with (at_builtin; refine wpList_append_lies _ (by rfl) _ _ 22 (by rfl) w1.heap.size 3 i0 (.int .i64 0) 1 8 Tryd.underlying22 hi hz0 hz1 hz2 rfl (by decide) _ kk ((hs.eraseIdx kk).map (.int .i64)) (by rfl) (by exact ow_below HO5.out (by repeat (first | exact Below.refl _ _ | apply below_drew1 | apply below_alloc))) ⟨w5.heap.size, 0, none⟩ 1 1 [.int .i64 q] (by rfl) rfl (by intro j u hj; match j, hj with | 0, hj => simp at hj; subst hj; simp [Addr.add]) (one_int _) (by decide) (lenM hn5) (len8 hn5) (by have := HB5.out.size; simp; omega) (w5.heap.size + 1) (by simp) ?_)
                  intro g2 cap2 w4 hown hgr hor hlt3
                  have hme : (hs.eraseIdx kk).length = kk := by rw [List.length_eraseIdx, if_pos (by have := HM.out; omega)]; have := HM.out; omega
                  have HSL3 := Aside0.mk (show IS w4 w1.heap.size (.slice (some ⟨g2, 0, none⟩) (kk + 1) cap2) (hs.eraseIdx kk ++ [q]) from by
                    unfold IS
                    rw [List.length_append, hme, List.map_append]
                    exact hown)
                  have HB3 := Aside0.mk (show Below w1.heap.size w1 w4 from (below_alloc HB5.out _).grown hgr (by have := HB5.out.size; simp; omega) (fun k hk => (ow_block HO5.out hk).1))
                  have HX3 := Aside0.mk (sys_grown (HX5.out.below (below_alloc (Below.refl _ _) (.cells #[.int .i64 q] 3))) hgr (fun k hk => (ow_block HO5.out hk).1) (fun k hk => by
                    obtain ⟨_, c, hc⟩ := ow_block HO5.out hk
                    exact tag_of (((below_alloc (Below.refl _ _) (.cells #[.int .i64 q] 3)).block k (heap_lt hc)).trans hc)))
                  have HL3 := HL5
                  obtain ⟨hs', hhs⟩ : ∃ hs', hs.eraseIdx kk ++ [q] = hs' := ⟨_, rfl⟩
                  rw [hhs] at HX3 HL3 HSL3
                  have hm1 : kk + 1 = hs'.length := by rw [← hhs, List.length_append, hme]; rfl
                  clear hown hgr hor hlt3 hi hz0 hz1 hz2 hhs hme
                  rw [hm1] at HSL3 ⊢
                  clear hm1
                  go_wp2_with fail
                  refine (here_pool HX3.out).mono ?_
                  rintro e w6 ⟨v6, rfl, h6, hb6⟩
                  have H6 := Aside0.mk (show IS w6 _ v6 hs' from by have h := h6; rw [hereF] at h; exact h)
                  have HB6 := Aside0.mk hb6
                  clear h6 hb6
                  go_wp2_with fail
                  refine (sameints_calls v6 _ hs' hs' _ (IR.of H6.out (by have := HL3.out; omega)) (IR.of (HSL3.out.below HB6.out) (by have := HL3.out; omega))).mono ?_
                  rintro e w7 ⟨rfl, hb7⟩
                  rw [show decide (hs' = hs') = true from decide_eq_true rfl]
                  have HB7 := Aside0.mk (below_step HB6.out hb7)
                  clear hb7
                  go_wp2_with fail
                  go_roundg ((n : Int) + 1 - i - 1).toNat
                  case measure => have := HI.out; omega
                  case rel => exact ⟨i + 1, _, hs', rfl, rfl, ⟨by omega, by omega, by have := HI.out; omega⟩, ⟨HSL3.out.below HB7.out⟩, ⟨HX3.out.below HB7.out⟩, ⟨below_step HB3.out HB7.out⟩, HL3⟩
                · have HRD4 := Aside0.mk (ir_drop HIS4.out (show kk + 1 ≤ m by omega) HM.out.symm (by omega))
                  have HDL := Aside0.mk (show (hs.drop (kk + 1)).length = m - (kk + 1) by rw [List.length_drop, HM.out])
                  go_wp2_with (at_builtin; refine wpList_append_any_rd _ (by rfl) _ _ 22 (by rfl) w1.heap.size 3 i0 (.int .i64 0) 1 8 Tryd.underlying22 hi hz0 hz1 hz2 rfl (by decide) _ kk ((hs.take kk).map (.int .i64)) (by rfl) HO4.out (some ⟨g9, kk + 1, none⟩) (m - (kk + 1)) (c9 - (kk + 1)) ((hs.drop (kk + 1)).map (.int .i64)) (by rfl) (by have h := HRD4.out; unfold IR at h; rw [HDL.out] at h; exact h) (by intro u hu; obtain ⟨x, _, rfl⟩ := List.mem_map.1 hu; rfl) (by unfold maxLen; omega) (by omega) HB4.out.size ?_)
                  intro v5 w5 hown hgr
                  have HB5 := Aside0.mk (show Below w1.heap.size w1 w5 from HB4.out.grown hgr HB4.out.size (fun k hk => (ow_block HO4.out hk).1))
                  have HX5 := Aside0.mk (sys_grown HX4.out hgr (fun k hk => (ow_block HO4.out hk).1) (fun k hk => by
                    obtain ⟨_, c, hc⟩ := ow_block HO4.out hk
                    exact tag_of hc))
                  have HO5 := Aside0.mk (show w5.ownsRow w1.heap.size 3 1 v5 (m - 1) ((hs.eraseIdx kk).map (.int .i64)) from by
                    rw [List.eraseIdx_eq_take_drop_succ, List.map_append, show m - 1 = kk + (m - (kk + 1)) from by omega, List.map_take, List.map_drop]
                    exact hown)
                  clear hown hgr hi hz0 hz1 hz2
                  obtain ⟨A5', c5', rfl, _⟩ := ow_slice HO5.out
                  obtain ⟨i0, hi, hz0, hz1, hz2⟩ := info_int'
                  have hn5 : (m - 1) ≤ 1000000 := by omega
                  go_wp2_with (at_builtin; refine wpList_append_lies _ (by rfl) _ _ 22 (by rfl) w1.heap.size 3 i0 (.int .i64 0) 1 8 Tryd.underlying22 hi hz0 hz1 hz2 rfl (by decide) _ (m - 1) ((hs.eraseIdx kk).map (.int .i64)) (by rfl) (by exact ow_below HO5.out (by repeat (first | exact Below.refl _ _ | apply below_drew1 | apply below_alloc))) ⟨w5.heap.size, 0, none⟩ 1 1 [.int .i64 q] (by rfl) rfl (by intro j u hj; match j, hj with | 0, hj => simp at hj; subst hj; simp [Addr.add]) (one_int _) (by decide) (lenM hn5) (len8 hn5) (by have := HB5.out.size; simp; omega) (w5.heap.size + 1) (by simp) ?_)
                  intro g2 cap2 w4 hown hgr hor hlt3
                  have hme : (hs.eraseIdx kk).length = (m - 1) := by rw [List.length_eraseIdx, if_pos (by have := HM.out; omega)]; have := HM.out; omega
                  have HSL3 := Aside0.mk (show IS w4 w1.heap.size (.slice (some ⟨g2, 0, none⟩) ((m - 1) + 1) cap2) (hs.eraseIdx kk ++ [q]) from by
                    unfold IS
                    rw [List.length_append, hme, List.map_append]
                    exact hown)
                  have HB3 := Aside0.mk (show Below w1.heap.size w1 w4 from (below_alloc HB5.out _).grown hgr (by have := HB5.out.size; simp; omega) (fun k hk => (ow_block HO5.out hk).1))
                  have HX3 := Aside0.mk (sys_grown (HX5.out.below (below_alloc (Below.refl _ _) (.cells #[.int .i64 q] 3))) hgr (fun k hk => (ow_block HO5.out hk).1) (fun k hk => by
                    obtain ⟨_, c, hc⟩ := ow_block HO5.out hk
                    exact tag_of (((below_alloc (Below.refl _ _) (.cells #[.int .i64 q] 3)).block k (heap_lt hc)).trans hc)))
                  have HL3 := HL5
                  obtain ⟨hs', hhs⟩ : ∃ hs', hs.eraseIdx kk ++ [q] = hs' := ⟨_, rfl⟩
                  rw [hhs] at HX3 HL3 HSL3
                  have hm1 : (m - 1) + 1 = hs'.length := by rw [← hhs, List.length_append, hme]; rfl
                  clear hown hgr hor hlt3 hi hz0 hz1 hz2 hhs hme
                  rw [hm1] at HSL3 ⊢
                  clear hm1
                  go_wp2_with fail
                  refine (here_pool HX3.out).mono ?_
                  rintro e w6 ⟨v6, rfl, h6, hb6⟩
                  have H6 := Aside0.mk (show IS w6 _ v6 hs' from by have h := h6; rw [hereF] at h; exact h)
                  have HB6 := Aside0.mk hb6
                  clear h6 hb6
                  go_wp2_with fail
                  refine (sameints_calls v6 _ hs' hs' _ (IR.of H6.out (by have := HL3.out; omega)) (IR.of (HSL3.out.below HB6.out) (by have := HL3.out; omega))).mono ?_
                  rintro e w7 ⟨rfl, hb7⟩
                  rw [show decide (hs' = hs') = true from decide_eq_true rfl]
                  have HB7 := Aside0.mk (below_step HB6.out hb7)
                  clear hb7
                  go_wp2_with fail
                  go_roundg ((n : Int) + 1 - i - 1).toNat
                  case measure => have := HI.out; omega
                  case rel => exact ⟨i + 1, _, hs', rfl, rfl, ⟨by omega, by omega, by have := HI.out; omega⟩, ⟨HSL3.out.below HB7.out⟩, ⟨HX3.out.below HB7.out⟩, ⟨below_step HB3.out HB7.out⟩, HL3⟩
              · have hst : stepF hs fr q i = hs ++ [q] := by unfold stepF; rw [if_neg hqm, if_neg (by rw [HM.out]; exact hfull)]
                rw [hst] at HX6 HL5
                clear hst hqm HX HSL HB HIR
                have qf : ((m : Int) == fr) = false := by simp [hfull]
                obtain ⟨i0, hi, hz0, hz1, hz2⟩ := info_int'
                have hn5 : m ≤ 1000000 := by omega
                go_wp2_with (at_builtin; refine wpList_append_lies _ (by rfl) _ _ 22 (by rfl) w1.heap.size 3 i0 (.int .i64 0) 1 8 Tryd.underlying22 hi hz0 hz1 hz2 rfl (by decide) _ m (hs.map (.int .i64)) (by rfl) (by exact ow_below (by have h := HSL6.out; unfold IS at h; rw [HM.out] at h; exact h) (by repeat (first | exact Below.refl _ _ | apply below_drew1 | apply below_alloc))) ⟨w3.heap.size + 1, 0, none⟩ 1 1 [.int .i64 q] (by rfl) rfl (by intro j u hj; match j, hj with | 0, hj => simp at hj; subst hj; simp [Addr.add]) (one_int _) (by decide) (lenM hn5) (len8 hn5) (by have := HB6.out.size; simp at this ⊢; omega) (w3.heap.size + 2) (by simp) ?_)
                intro g2 cap2 w4 hown hgr hor hlt3
                have HSL3 := Aside0.mk (show IS w4 w1.heap.size (.slice (some ⟨g2, 0, none⟩) (m + 1) cap2) (hs ++ [q]) from by
                  unfold IS
                  rw [List.length_append, HM.out, List.map_append]
                  exact hown)
                have HB3 := Aside0.mk (show Below w1.heap.size w1 w4 from (below_alloc HB6.out _).grown hgr (by have := HB6.out.size; simp at this ⊢; omega) (fun k hk => (ow_block HSL6.out hk).1))
                have HX3 := Aside0.mk (sys_grown (HX6.out.below (below_alloc (Below.refl _ _) (.cells #[.int .i64 q] 3))) hgr (fun k hk => (ow_block HSL6.out hk).1) (fun k hk => by
                  obtain ⟨_, c, hc⟩ := ow_block HSL6.out hk
                  exact tag_of (((below_alloc (Below.refl _ _) (.cells #[.int .i64 q] 3)).block k (heap_lt hc)).trans hc)))
                have HL3 := HL5
                obtain ⟨hs', hhs⟩ : ∃ hs', hs ++ [q] = hs' := ⟨_, rfl⟩
                rw [hhs] at HX3 HL3 HSL3
                have hm1 : m + 1 = hs'.length := by rw [← hhs]; simp; exact HM.out.symm
                clear hown hgr hor hlt3 hi hz0 hz1 hz2 hhs
                rw [hm1] at HSL3 ⊢
                go_wp2_with fail
                refine (here_pool HX3.out).mono ?_
                rintro e w6 ⟨v6, rfl, h6, hb6⟩
                have H6 := Aside0.mk (show IS w6 _ v6 hs' from by have h := h6; rw [hereF] at h; exact h)
                have HB6 := Aside0.mk hb6
                clear h6 hb6
                go_wp2_with fail
                refine (sameints_calls v6 _ hs' hs' _ (IR.of H6.out (by have := HL3.out; omega)) (IR.of (HSL3.out.below HB6.out) (by have := HL3.out; omega))).mono ?_
                rintro e w7 ⟨rfl, hb7⟩
                rw [show decide (hs' = hs') = true from decide_eq_true rfl]
                have HB7 := Aside0.mk (below_step HB6.out hb7)
                clear hb7
                go_wp2_with fail
                go_roundg ((n : Int) + 1 - i - 1).toNat
                case measure => have := HI.out; omega
                case rel => exact ⟨i + 1, _, hs', rfl, rfl, ⟨by omega, by omega, by have := HI.out; omega⟩, ⟨HSL3.out.below HB7.out⟩, ⟨HX3.out.below HB7.out⟩, ⟨below_step HB3.out HB7.out⟩, HL3⟩
      · go_wp2_with fail
        go_ret
        exact ⟨rfl, below_step HBA.out HB.out⟩

end Go.Proofs.YtlgpkbhajloajaaDoor.WalkPoolFrames
