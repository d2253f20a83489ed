/- Joined texts: WalkForwardRecords. No condition but what each says. -/
import Derived.Test.YtaplpeoikebedaaGreatDoorQ30
import Derived.Test.YtaplpeoikebedaaGreatDoorQ33
import Derived.Test.YtaplpeoikebedaaGreatDoorQ35
import Derived.Test.YtaplpeoikebedaaGreatDoorQ26
namespace Go.Proofs.YtaplpeoikebedaaGreatDoor.WalkForwardRecords
open Go.RowKit Go.Maps Go.Proofs.YtaplpeoikebedaaGreatDoorW.PrintWords Go.Proofs.YtaplpeoikebedaaGreatDoorW.PrintLast Go.Proofs.YtaplpeoikebedaaGreatDoorW.PrintMore
open Go.Proofs.YtaplpeoikebedaaGreatDoor.See Go.Proofs.YtaplpeoikebedaaGreatDoor.Mem Go.Proofs.YtaplpeoikebedaaGreatDoor.Page Go.Proofs.YtaplpeoikebedaaGreatDoor.PageL Go.Proofs.YtaplpeoikebedaaGreatDoor.Disk Go.Proofs.YtaplpeoikebedaaGreatDoor.DiskN Go.Proofs.YtaplpeoikebedaaGreatDoor.RecD Go.Proofs.YtaplpeoikebedaaGreatDoor.Rec Go.Proofs.YtaplpeoikebedaaGreatDoor.Pool3 Go.Proofs.YtaplpeoikebedaaGreatDoor.Wal Go.Proofs.YtaplpeoikebedaaGreatDoor.WalR Go.Proofs.YtaplpeoikebedaaGreatDoor.Fresh Go.Proofs.YtaplpeoikebedaaGreatDoor.Num Go.Proofs.YtaplpeoikebedaaGreatDoor.SysD Go.Proofs.YtaplpeoikebedaaGreatDoor.SysM Go.Proofs.YtaplpeoikebedaaGreatDoor.StoreD Go.Proofs.YtaplpeoikebedaaGreatDoor.StoreF Go.Proofs.YtaplpeoikebedaaGreatDoor.StoreI Go.Proofs.YtaplpeoikebedaaGreatDoor.StoreJ Go.Proofs.YtaplpeoikebedaaGreatDoor.StoreK Go.Proofs.YtaplpeoikebedaaGreatDoor.RoomD Go.Proofs.YtaplpeoikebedaaGreatDoor.RecsD Go.Proofs.YtaplpeoikebedaaGreatDoor.SpaceT Go.Proofs.YtaplpeoikebedaaGreatDoor.FwdM Go.Proofs.YtaplpeoikebedaaGreatDoor.FwdP Go.Proofs.YtaplpeoikebedaaGreatDoor.FwdT Go.Proofs.YtaplpeoikebedaaGreatDoor.FwdB Go.Proofs.YtaplpeoikebedaaGreatDoor.FwdU Go.Proofs.YtaplpeoikebedaaGreatDoor.FwdK Go.Proofs.YtaplpeoikebedaaGreatDoor.First17
attribute [local go_sem] max2_imax min2_imin max_two min_two
set_option linter.unusedVariables false
set_option linter.unusedSimpArgs false
/-- The arrays of what each key has. -/
def arrB (hs : Int → Bool) : Array Value := ((List.range 30).map fun j : Nat => Value.bool (hs j)).toArray
def arrV (vl : Int → Int) : Array Value := ((List.range 30).map fun j : Nat => Value.int .i64 (vl j)).toArray
theorem arrB_at (hs : Int → Bool) {k : Int} (h0 : 0 ≤ k) (h1 : k < 30) : (arrB hs)[k.toNat]? = some (.bool (hs k)) := by
  unfold arrB
  simp only [List.getElem?_toArray, List.getElem?_map]
  rw [List.getElem?_range (by omega)]
  simp only [Option.map_some]
  rw [Int.toNat_of_nonneg h0]
theorem arrV_at (vl : Int → Int) {k : Int} (h0 : 0 ≤ k) (h1 : k < 30) : (arrV vl)[k.toNat]? = some (.int .i64 (vl k)) := by
  unfold arrV
  simp only [List.getElem?_toArray, List.getElem?_map]
  rw [List.getElem?_range (by omega)]
  simp only [Option.map_some]
  rw [Int.toNat_of_nonneg h0]
theorem arrB_set (hs : Int → Bool) {k : Int} (h0 : 0 ≤ k) (h1 : k < 30) : (arrB hs).setIfInBounds k.toNat (.bool true) = arrB (fun j => if j = k then true else hs j) := by
  apply Array.ext_getElem?
  intro j
  rw [Array.getElem?_setIfInBounds]
  unfold arrB
  by_cases hj : j < 30
  · by_cases e : k.toNat = j
    · have ej : (j : Int) = k := by omega
      simp [e, hj, ej]
    · have ej : ¬ (j : Int) = k := by omega
      simp [e, hj, ej]
  · by_cases e : k.toNat = j
    · omega
    · simp [e, hj]
theorem arrV_set (vl : Int → Int) {k : Int} (v : Int) (h0 : 0 ≤ k) (h1 : k < 30) : (arrV vl).setIfInBounds k.toNat (.int .i64 v) = arrV (fun j => if j = k then v else vl j) := by
  apply Array.ext_getElem?
  intro j
  rw [Array.getElem?_setIfInBounds]
  unfold arrV
  by_cases hj : j < 30
  · by_cases e : k.toNat = j
    · have ej : (j : Int) = k := by omega
      simp [e, hj, ej]
    · have ej : ¬ (j : Int) = k := by omega
      simp [e, hj, ej]
  · by_cases e : k.toNat = j
    · omega
    · simp [e, hj]
theorem cell_at {w : World} {b : Nat} {cs : Array Value} {t : Nat} (h : w.heap[b]? = some (.cells cs t (0, 0))) (i : Nat) : w.cell? ⟨b, i, none⟩ = cs[i]? := by simp [World.cell?, h]
/-- The store's region: all blocks since, but the two arrays. -/
def M0 (n b9 b10 : Nat) : Nat → Prop := fun k => n ≤ k ∧ k ≠ b9 ∧ k ≠ b10
theorem m0_up {n b9 b10 : Nat} {w1 w2 : World} {sp lp pp dp qp mp : Nat} {blocks frames : Int} {F : FS} (hn : n ≤ w1.heap.size) (h9 : b9 < w1.heap.size) (h10 : b10 < w1.heap.size) (h : FwM (Gr (M0 n b9 b10) w1 w2) w2 sp lp pp dp qp mp blocks frames F) : FwM (M0 n b9 b10) w2 sp lp pp dp qp mp blocks frames F :=
  FwM.mono h fun k hk => by
    rcases hk with hk | ⟨h1, _⟩
    · exact hk
    · exact ⟨by omega, by omega, by omega⟩
/-- Both arrays' stores. -/
theorem two_sets {w1 w : World} {n b9 b10 sp lp pp dp qp mp : Nat} {blocks frames : Int} {F : FS} {hs : Int → Bool} {vl : Int → Int} {k u : Int} (h9 : w.heap[b9]? = some (.cells (arrB hs) 43 (0, 0))) (h10 : w.heap[b10]? = some (.cells (arrV vl) 44 (0, 0))) (hne : b9 ≠ b10) (k0 : 0 ≤ k) (k1 : k < 30)
    (hF : FwM (M0 n b9 b10) w sp lp pp dp qp mp blocks frames F) (hB : Below w1.heap.size w1 w) (hb9 : w1.heap.size ≤ b9) (hb10 : w1.heap.size ≤ b10) :
    FwM (M0 n b9 b10) ((w.setCell ⟨b9, k.toNat, none⟩ (.bool true)).setCell ⟨b10, k.toNat, none⟩ (.int .i64 u)) sp lp pp dp qp mp blocks frames F ∧
    Below w1.heap.size w1 ((w.setCell ⟨b9, k.toNat, none⟩ (.bool true)).setCell ⟨b10, k.toNat, none⟩ (.int .i64 u)) ∧
    ((w.setCell ⟨b9, k.toNat, none⟩ (.bool true)).setCell ⟨b10, k.toNat, none⟩ (.int .i64 u)).heap[b9]? = some (.cells (arrB fun j => if j = k then true else hs j) 43 (0, 0)) ∧
    ((w.setCell ⟨b9, k.toNat, none⟩ (.bool true)).setCell ⟨b10, k.toNat, none⟩ (.int .i64 u)).heap[b10]? = some (.cells (arrV fun j => if j = k then u else vl j) 44 (0, 0)) := by
  have g9 := heap_setCell_same w b9 k.toNat _ _ (.bool true) h9
  rw [arrB_set hs k0 k1] at g9
  have g10 : (w.setCell ⟨b9, k.toNat, none⟩ (.bool true)).heap[b10]? = _ := (Below.heap_setCell w ⟨b9, k.toNat, none⟩ _ b10 (fun e => hne e.symm)).trans h10
  have f10 := heap_setCell_same _ b10 k.toNat _ _ (.int .i64 u) g10
  rw [arrV_set vl u k0 k1] at f10
  have hF1 : FwM (M0 n b9 b10) (w.setCell ⟨b9, k.toNat, none⟩ (.bool true)) sp lp pp dp qp mp blocks frames F := Go.Proofs.YtaplpeoikebedaaGreatDoor.FwdT.FwM.but hF (b := b9) (fun j hj => Below.heap_setCell w _ _ j hj) (fun h => h.2.1 rfl) ⟨by rw [tag_of h9]; decide, by rw [tag_of h9]; decide⟩
  have hF2 := Go.Proofs.YtaplpeoikebedaaGreatDoor.FwdT.FwM.but hF1 (w' := (w.setCell ⟨b9, k.toNat, none⟩ (.bool true)).setCell ⟨b10, k.toNat, none⟩ (.int .i64 u)) (b := b10) (fun j hj => Below.heap_setCell _ _ _ j hj) (fun h => h.2.2 rfl) ⟨by rw [tag_of g10]; decide, by rw [tag_of g10]; decide⟩
  exact ⟨hF2, (hB.setCell hb9 _).setCell hb10 _, (Below.heap_setCell _ ⟨b10, k.toNat, none⟩ _ b9 hne).trans g9, f10⟩
theorem rec_fw {M : Nat → Prop} {sp lp pp dp qp mp : Nat} {blocks frames : Int} {F : FS} {n : Int} {r : RecV} {w : World} (h : FwM M w sp lp pp dp qp mp blocks frames F) (hr : recOf F.S.l n = some r) :
    Calls Tryz.prog 23 #[.pointer (some ⟨lp, 0, none⟩), .int .i64 n] w fun e w' => e = .returned (.tuple #[recV r, .bool true]) ∧ Below w.heap.size w w' := by
  obtain ⟨lv, hl⟩ := h.sys.log
  exact rec_log _ lp dp lv _ n r w hl hr
set_option maxHeartbeats 8000000 in
set_option maxRecDepth 100000 in
theorem records_calls (A : Option Addr) (cap : Nat) (xs : List Int) (hc : xs.length ≤ cap) (hm : xs.length ≤ maxLen) (a1 : Int) (hb1 : -9223372036854775808 ≤ a1) (hb2 : a1 ≤ 9223372036854775807) (a : Nat → Addr) (w : World) (hs : SentsK (List.range 18) w a) (hr : ReadsInt w .i64 A xs.length xs) :
    Calls Tryz.prog 4 #[.slice A xs.length cap, .int .i64 a1] w fun e w' => e = .returned (.bool true) ∧ Below w.heap.size w w' := by
  unfold maxLen at hm
  have HS := Aside0.mk hs.all
  have HRD := Aside0.mk hr
  obtain ⟨n, hn⟩ : ∃ n, xs.length = n := ⟨_, rfl⟩
  have HN := Aside0.mk hn
  rw [hn] at hm hr ⊢
  clear hs hr hn hc
  by_cases h20 : (20 : Int) < (n : Int)
  · go_enter Tryz.func4, Tryz.ntmps4
    go_wp2_with fail
    refine (first17_calls a _ HS.out).mono ?_
    rintro e w1 ⟨rfl, hb⟩
    go_wp2_with fail
    go_ret
    exact ⟨rfl, hb⟩
  · go_enter Tryz.func4, Tryz.ntmps4
    go_wp2_with fail
    refine (first17_calls a _ HS.out).mono ?_
    rintro e w1 ⟨rfl, hb⟩
    have HBA := Aside0.mk hb
    have HS1 := Aside0.mk (HS.out.below hb)
    clear hb
    go_wp2_with fail
    refine (store_calls 8 20 2 1 (by omega) (by omega) (by omega) _).mono ?_
    rintro e w2 ⟨sp, lp, pp, dp, qp, mp, rfl, hf, hb⟩
    have HF0 := Aside0.mk hf
    have HB0 := Aside0.mk hb
    clear hf hb
    have HOK := Aside0.mk (new_ok (P := 8) (blocks := 20) (frames := 2) (sess := 1) 0 (by omega) (by omega) (by omega))
    go_wp2_with fail
    refine (begin_calls a _ sp lp pp dp qp mp 20 2 (newF 8 20 2 1) 0 _ 0 _ _ _ HF0.out HOK.out (HS1.out.below HB0.out) (out_all HS1.out) (by decide) (by decide) (by decide) rfl (by decide)).mono ?_
    rintro e w3 hpost
    rcases hpost with ⟨_, rfl, hpost⟩ | ⟨hlt, _, _⟩
    case inr => exact absurd hlt (by decide)
    have HF3 := Aside0.mk (fw_up HB0.out hpost.1)
    have HB3 := Aside0.mk (show Below w1.heap.size w1 w3 from HB0.out.trans (hpost.2.below (fun k hk => hk) HB0.out.size))
    clear hpost
    obtain ⟨b9, hb9⟩ : ∃ b, w3.heap.size = b := ⟨_, rfl⟩
    obtain ⟨b10, hb10⟩ : ∃ b, w3.heap.size + 1 = b := ⟨_, rfl⟩
    have HBN := Aside0.mk (And.intro hb9 hb10)
    have HFM := Aside0.mk (show FwM (M0 w1.heap.size b9 b10) w3 sp lp pp dp qp mp 20 2 (beginF (newF 8 20 2 1) 0) from FwM.mono (FwM.cut HF3.out) fun k hk => ⟨hk.1, by have := hk.2; omega, by have := hk.2; omega⟩)
    obtain ⟨W, hW⟩ : ∃ W, (w3.alloc (.cells (arrB fun _ => false) 43)).alloc (.cells (arrV fun _ => 0) 44) = W := ⟨_, rfl⟩
    have HBW := Aside0.mk (show Below w3.heap.size w3 W from by rw [← hW]; exact below_alloc (below_alloc (Below.refl _ _) _) _)
    have H9 := Aside0.mk (show W.heap[b9]? = some (.cells (arrB fun _ => false) 43 (0, 0)) from by
      rw [← hW, ← hb9]
      exact (Below.heap_alloc _ _ _ (by show _ < (w3.heap.push _).size; rw [Array.size_push]; omega)).trans (heap_alloc_new w3 _))
    have H10 := Aside0.mk (show W.heap[b10]? = some (.cells (arrV fun _ => 0) 44 (0, 0)) from by
      rw [← hW, ← hb10]
      exact ChangeT.alloc_at _ _ (show (w3.alloc _).heap.size = w3.heap.size + 1 from by show (w3.heap.push _).size = _; rw [Array.size_push]))
    have HWE := Aside0.mk hW
    clear hb9 hb10 hW HF3
    go_upto_region 11 with fail
    change Code.wp _ _ _ _ ((w3.alloc (.cells (arrB fun _ => false) 43)).alloc (.cells (arrV fun _ => 0) 44))
    rw [HWE.out, HBN.out.2, HBN.out.1]
    have HBW1 := Aside0.mk (HB3.out.trans (HBW.out.mono HB3.out.size))
    have HFW := Aside0.mk (HFM.out.below HBW.out)
    have HB9 := Aside0.mk (show w1.heap.size ≤ b9 ∧ w1.heap.size ≤ b10 ∧ b9 ≠ b10 by have := HBN.out; have := HB3.out.size; omega)
    clear HWE HF0 HB0 HFM HB3
    go_wp2_with fail
    go_loopg [11, 12] (n + 1) (fun kq v11 v12 w' => ∃ (i : Int) (F : FS) (hs : Int → Bool) (vl : Int → Int), v11 = .int .i64 (i + 1) ∧ v12 = .int .i64 i ∧ Aside0 (0 ≤ i ∧ i ≤ n ∧ (kq : Int) = n + 1 - i) ∧ Aside0 (QSt (1 + 8 + 20 : Int).toNat i.toNat F hs vl) ∧ Aside0 (FwM (M0 w1.heap.size b9 b10) w' sp lp pp dp qp mp 20 2 F) ∧ Aside0 (Below w1.heap.size w1 w') ∧ Aside0 (w'.heap[b9]? = some (.cells (arrB hs) 43 (0, 0))) ∧ Aside0 (w'.heap[b10]? = some (.cells (arrV vl) 44 (0, 0))))
    case atStart => exact ⟨0, _, _, _, rfl, rfl, ⟨by omega, by omega, by omega⟩, ⟨q_start⟩, HFW, HBW1, H9, H10⟩
    case round =>
      clear HFW HBW1 H9 H10
      obtain ⟨i, F, hs, vl, rfl, rfl, HI, HQ, HF, HB, H9, H10⟩ := hrel
      have hi0 : 0 ≤ i := HI.out.1
      by_cases hlt : i < n
      · have hi20 : i < 20 := by omega
        obtain ⟨ad, e, hc⟩ := (HRD.out.below (below_step HBA.out HB.out)).at_ i hi0 (by have := HN.out; omega)
        subst e
        obtain ⟨x, hx⟩ : ∃ x, rd xs i = x := ⟨_, rfl⟩
        rw [hx] at hc
        obtain ⟨k, hk⟩ : ∃ k, x % 30 = k := ⟨_, rfl⟩
        have HK := Aside0.mk hk
        have k0 : 0 ≤ k := by omega
        have k30 : k < 30 := by omega
        obtain ⟨u, hu⟩ : ∃ u, IntKind.i64.wrap (a1 + i) = u := ⟨_, rfl⟩
        have HU := Aside0.mk (show is64 u by rw [← hu, IntKind.wrap_i64]; unfold is64; omega)
        obtain ⟨pv, hpv⟩ : ∃ pv, i + 1 = pv := ⟨_, rfl⟩
        have hw1 : IntKind.i64.wrap (pv + 1) = pv + 1 := by rw [IntKind.wrap_i64]; omega
        rw [hpv]
        obtain ⟨R, hR, hQ2, hrec⟩ := q_put (v := u) HQ.out (show i.toNat < 20 by omega) k0 k30 HU.out
        obtain ⟨ch, hok⟩ := HQ.out.ok
        have hij : ((i.toNat : Nat) : Int) = i := Int.toNat_of_nonneg hi0
        rw [hij] at hR hrec
        have HPC := Aside0.mk (put_calls a (M0 w1.heap.size b9 b10) sp lp pp dp qp mp 20 2 F 0 k u i _ _ _ _ (fun _ => 0) wr HF.out hok HQ.out.ks rfl (HS1.out.below HB.out) (OutAll.sub (out_all HS1.out) fun j hj => hj.1) (by omega) (by rw [HQ.out.sess]; omega) (by rw [HQ.out.sess]; omega) (by rw [HQ.out.of]; exact HQ.out.has_) k0 (by omega) (by have := HQ.out.kl; omega) (by omega) (by omega) (by omega) HU.out)
        rw [hR] at HPC
        rw [show i + 2 = pv + 1 by omega, hpv] at hrec
        obtain ⟨h0, hh0⟩ : ∃ b, hs k = b := ⟨_, rfl⟩
        obtain ⟨ov, hov⟩ : ∃ v, (if hs k then vl k else 0) = v := ⟨_, rfl⟩
        rw [hov, hh0] at HPC hrec
        have HH := Aside0.mk (And.intro hh0 hov)
        clear hh0 hov
        have HREC := Aside0.mk hrec
        have HQ2 := Aside0.mk hQ2
        have HPV := Aside0.mk hpv
        clear hR hQ2 hrec hok hij hx hk hpv
        go_wp2_with fail
        refine (num_at _ _ _ (by omega) (by omega) HK.out _).mono ?_
        rintro e w' ⟨rfl, rfl⟩
        clear hc
        go_wp2_with fail
        refine HPC.out.mono ?_
        rintro e w4 ⟨rfl, hp⟩
        rw [show errv a none = .nilIface from rfl]
        have hn9 : b9 < wr.heap.size := heap_lt H9.out
        have hn10 : b10 < wr.heap.size := heap_lt H10.out
        have HF4 := Aside0.mk (m0_up HB.out.size hn9 hn10 hp.1)
        have HB4 := Aside0.mk (HB.out.trans (hp.2.below (fun j hj => hj.1) HB.out.size))
        have H94 := Aside0.mk (hp.2.at H9.out fun hc => hc.2.1 rfl)
        have H104 := Aside0.mk (hp.2.at H10.out fun hc => hc.2.2 rfl)
        clear hp hn9 hn10 HPC
        obtain ⟨lv, hlg⟩ := HF4.out.sys.log
        have HLG := Aside0.mk hlg
        clear hlg
        go_wp2_with fail
        refine (rec_log _ lp dp lv R.S.l (pv + 1) _ _ HLG.out HREC.out).mono ?_
        rintro e w5 ⟨rfl, hb5⟩
        have HF5 := Aside0.mk (HF4.out.below hb5)
        have HB5 := Aside0.mk (below_step HB4.out hb5)
        have H95 := Aside0.mk ((hb5.block _ (heap_lt H94.out)).trans H94.out)
        have H105 := Aside0.mk ((hb5.block _ (heap_lt H104.out)).trans H104.out)
        clear hb5
        simp only [recV]
        have hc9 : w5.cell? ⟨b9, k.toNat, none⟩ = some (.bool h0) := by
          rw [← HH.out.1]
          exact (cell_at H95.out _).trans (arrB_at hs k0 k30)
        have hc10 : w5.cell? ⟨b10, k.toNat, none⟩ = some (.int .i64 (vl k)) := (cell_at H105.out _).trans (arrV_at vl k0 k30)
        have hl9 : b9 < w5.heap.size := heap_lt H95.out
        have hl10 : b10 < w5.heap.size := heap_lt H105.out
        have HLG5 := Aside0.mk (fun (W : World) (hb : Below w5.heap.size w5 W) => HF5.out.below hb)
        have HRL := Aside0.mk (show R.S.l.last = pv + 1 by rw [HQ2.out.last, ← HPV.out]; push_cast; omega)
        cases h0
        · have hov : ov = 0 := by rw [← HH.out.2, HH.out.1]; rfl
          subst hov
          go_wp2_with fail
          obtain ⟨lv5, hlg⟩ := (HLG5.out _ (below_alloc (Below.refl _ _) _)).sys.log
          refine (last_log _ lp dp lv5 R.S.l _ hlg).mono ?_
          rintro e w6 ⟨rfl, hb⟩
          rw [HRL.out]
          have HB56 := Aside0.mk (below_step (below_alloc (Below.refl w5.heap.size w5) _) hb)
          clear hb hlg lv5 hc9 hc10
          have HF6 := Aside0.mk (HLG5.out _ HB56.out)
          have HB6 := Aside0.mk (below_step HB5.out HB56.out)
          have H96 := Aside0.mk ((HB56.out.block _ (heap_lt H95.out)).trans H95.out)
          have H106 := Aside0.mk ((HB56.out.block _ (heap_lt H105.out)).trans H105.out)
          have hf9 : w6.frozen? ⟨b9, k.toNat, none⟩ = false := by simp [World.frozen?, H96.out]
          have hf10 : w6.frozen? ⟨b10, k.toNat, none⟩ = false := by simp [World.frozen?, H106.out]
          have hc9 : w6.cell? ⟨b9, k.toNat, none⟩ = some (.bool (hs k)) := (cell_at H96.out _).trans (arrB_at hs k0 k30)
          have hc10 : w6.cell? ⟨b10, k.toNat, none⟩ = some (.int .i64 (vl k)) := (cell_at H106.out _).trans (arrV_at vl k0 k30)
          have HT := Aside0.mk (two_sets (u := u) H96.out H106.out HB9.out.2.2 k0 k30 HF6.out HB6.out HB9.out.1 HB9.out.2.1)
          have hn1 : ¬ b9 = b10 := HB9.out.2.2
          have hn2 : ¬ b10 = b9 := fun e => HB9.out.2.2 e.symm
          clear HB56 H95 H105 HLG5
          go_wp2_with fail
          go_roundg (gk - 1)
          case measure => have := HI.out; omega
          case rel => exact ⟨i + 1, R, _, _, by rw [← HPV.out], rfl, ⟨by omega, by omega, by have := HI.out; omega⟩, ⟨by rw [show (i + 1).toNat = i.toNat + 1 from by omega]; exact HQ2.out⟩, ⟨HT.out.1⟩, ⟨HT.out.2.1⟩, ⟨HT.out.2.2.1⟩, ⟨HT.out.2.2.2⟩⟩
        · have hov : vl k = ov := by rw [← HH.out.2, HH.out.1]; rfl
          subst hov
          go_wp2_with fail
          obtain ⟨lv5, hlg⟩ := (HLG5.out _ (below_alloc (Below.refl _ _) _)).sys.log
          refine (last_log _ lp dp lv5 R.S.l _ hlg).mono ?_
          rintro e w6 ⟨rfl, hb⟩
          rw [HRL.out]
          have HB56 := Aside0.mk (below_step (below_alloc (Below.refl w5.heap.size w5) _) hb)
          clear hb hlg lv5 hc9 hc10
          have HF6 := Aside0.mk (HLG5.out _ HB56.out)
          have HB6 := Aside0.mk (below_step HB5.out HB56.out)
          have H96 := Aside0.mk ((HB56.out.block _ (heap_lt H95.out)).trans H95.out)
          have H106 := Aside0.mk ((HB56.out.block _ (heap_lt H105.out)).trans H105.out)
          have hf9 : w6.frozen? ⟨b9, k.toNat, none⟩ = false := by simp [World.frozen?, H96.out]
          have hf10 : w6.frozen? ⟨b10, k.toNat, none⟩ = false := by simp [World.frozen?, H106.out]
          have hc9 : w6.cell? ⟨b9, k.toNat, none⟩ = some (.bool (hs k)) := (cell_at H96.out _).trans (arrB_at hs k0 k30)
          have hc10 : w6.cell? ⟨b10, k.toNat, none⟩ = some (.int .i64 (vl k)) := (cell_at H106.out _).trans (arrV_at vl k0 k30)
          have HT := Aside0.mk (two_sets (u := u) H96.out H106.out HB9.out.2.2 k0 k30 HF6.out HB6.out HB9.out.1 HB9.out.2.1)
          have hn1 : ¬ b9 = b10 := HB9.out.2.2
          have hn2 : ¬ b10 = b9 := fun e => HB9.out.2.2 e.symm
          clear HB56 H95 H105 HLG5
          go_wp2_with fail
          go_roundg (gk - 1)
          case measure => have := HI.out; omega
          case rel => exact ⟨i + 1, R, _, _, by rw [← HPV.out], rfl, ⟨by omega, by omega, by have := HI.out; omega⟩, ⟨by rw [show (i + 1).toNat = i.toNat + 1 from by omega]; exact HQ2.out⟩, ⟨HT.out.1⟩, ⟨HT.out.2.1⟩, ⟨HT.out.2.2.1⟩, ⟨HT.out.2.2.2⟩⟩
      · have hin : i = n := by have := HI.out; omega
        obtain ⟨ch, hok, hcm, hend⟩ := q_commit HQ.out
        have hij : ((i.toNat : Nat) : Int) = i := Int.toNat_of_nonneg hi0
        have hi20 : i ≤ 20 := by omega
        have HCC := Aside0.mk (commit_calls a (M0 w1.heap.size b9 b10) sp lp pp dp qp mp 20 2 F 0 1 _ i.toNat ch _ _ HF.out hok hcm (HS1.out.below HB.out) (OutAll.sub (out_all HS1.out) fun j hj => hj.1) (by omega) (by rw [HQ.out.sess]; omega) (by rw [HQ.out.sess]; omega) HQ.out.of HQ.out.has_ (by omega) (fun x hx => (HQ.out.ks.own x hx).symm))
        obtain ⟨C, hC⟩ : ∃ C, commitF F 0 1 ((ch 1).length : Int) = C := ⟨_, rfl⟩
        rw [hC] at HCC hend
        obtain ⟨pv, hpv⟩ : ∃ pv, i + 1 = pv := ⟨_, rfl⟩
        obtain ⟨r4, q4, k4, p4⟩ := hend.rec4
        obtain ⟨r6, q6, k6, p6⟩ := hend.rec6
        have hdone := hend.done
        have hlast := hend.last
        rw [hij, show i + 2 = pv + 1 by omega] at hdone q4 p6
        rw [hij, show i + 3 = pv + 2 by omega] at hlast q6
        rw [hij, hpv] at p4
        have HD := Aside0.mk (And.intro hdone hlast)
        have H4 := Aside0.mk q4
        have H6 := Aside0.mk q6
        have HE1 := Aside0.mk hend.rec1
        have HEX := Aside0.mk (And.intro hend.of (And.intro hend.kept hend.free))
        have hw1 : IntKind.i64.wrap (pv + 1) = pv + 1 := by rw [IntKind.wrap_i64]; omega
        have hw2 : IntKind.i64.wrap (pv + 2) = pv + 2 := by rw [IntKind.wrap_i64]; omega
        rw [hpv]
        clear hok hcm hend hC q4 q6 hdone hlast hpv hij
        go_wp2_with fail
        refine HCC.out.mono ?_
        rintro e w2 ⟨rfl, hp⟩
        have hn9 : b9 < wr.heap.size := heap_lt H9.out
        have hn10 : b10 < wr.heap.size := heap_lt H10.out
        have HF2 := Aside0.mk (m0_up HB.out.size hn9 hn10 hp.1)
        have HB2 := Aside0.mk (HB.out.trans (hp.2.below (fun j hj => hj.1) HB.out.size))
        clear hp hn9 hn10 HCC
        have HLG := Aside0.mk (fun (W : World) (hb : Below w2.heap.size w2 W) => HF2.out.below hb)
        go_wp2_with fail
        obtain ⟨lv, hlg⟩ := HF2.out.sys.log
        refine (done_log _ lp dp lv C.S.l _ hlg).mono ?_
        rintro e w3 ⟨rfl, hb⟩
        rw [HD.out.1]
        have HB3 := Aside0.mk hb
        clear hb hlg
        go_wp2_with fail
        obtain ⟨lv3, hlg⟩ := (HLG.out _ HB3.out).sys.log
        refine (last_log _ lp dp lv3 C.S.l _ hlg).mono ?_
        rintro e w4 ⟨rfl, hb⟩
        rw [HD.out.2]
        have HB4 := Aside0.mk (below_step HB3.out hb)
        clear hb hlg
        go_wp2_with fail
        refine (txn_calls _ sp lp pp dp qp mp 20 2 C 0 _ (HLG.out _ HB4.out) (by omega) (by omega)).mono ?_
        rintro e w5 ⟨rfl, rfl⟩
        rw [HEX.out.1]
        go_wp2_with fail
        refine (rec_fw (HLG.out _ HB4.out) H4.out).mono ?_
        rintro e w5 ⟨rfl, hb⟩
        have HB5 := Aside0.mk (below_step HB4.out hb)
        clear hb HB4 HB3
        simp only [recV]
        rw [k4, p4]
        go_wp2_with fail
        refine (rec_fw (HLG.out _ (below_step HB5.out (below_alloc (Below.refl _ _) _))) H6.out).mono ?_
        rintro e w6 ⟨rfl, hb⟩
        have HA5 := Aside0.mk ((hb.block w5.heap.size (by simp)).trans (heap_alloc_new w5 _))
        have HB6 := Aside0.mk (below_step HB5.out (below_step (below_alloc (Below.refl _ _) _) hb))
        clear hb
        obtain ⟨b5, hb5⟩ : ∃ b, w5.heap.size = b := ⟨_, rfl⟩
        rw [hb5] at HA5
        rw [hb5]
        clear hb5
        simp only [recV]
        rw [k6, p6]
        go_wp2_with fail
        refine (rec_fw (HLG.out _ (below_step HB6.out (below_alloc (Below.refl _ _) _))) HE1.out).mono ?_
        rintro e w7 ⟨rfl, hb⟩
        have HA6 := Aside0.mk ((hb.block w6.heap.size (by simp)).trans (heap_alloc_new w6 _))
        have HA57 := Aside0.mk (((below_step (below_alloc (Below.refl _ _) _) hb).block _ (heap_lt HA5.out)).trans HA5.out)
        have HB7 := Aside0.mk (below_step HB6.out (below_step (below_alloc (Below.refl _ _) _) hb))
        clear hb HA5
        obtain ⟨b6, hb6⟩ : ∃ b, w6.heap.size = b := ⟨_, rfl⟩
        rw [hb6] at HA6
        rw [hb6]
        clear hb6
        simp only [recV, recBegin]
        go_wp2_with fail
        refine (space_calls _ sp lp pp dp qp mp 20 2 C _ (HLG.out _ (below_step HB7.out (below_alloc (Below.refl _ _) _)))).mono ?_
        rintro e w8 ⟨rfl, hb⟩
        have HA7 := Aside0.mk ((hb.block w7.heap.size (by simp)).trans (heap_alloc_new w7 _))
        have HA58 := Aside0.mk (((below_step (below_alloc (Below.refl _ _) _) hb).block _ (heap_lt HA57.out)).trans HA57.out)
        have HA68 := Aside0.mk (((below_step (below_alloc (Below.refl _ _) _) hb).block _ (heap_lt HA6.out)).trans HA6.out)
        have HB8 := Aside0.mk (below_step HB7.out (below_step (below_alloc (Below.refl _ _) _) hb))
        clear hb HA57 HA6
        obtain ⟨b7, hb7⟩ : ∃ b, w7.heap.size = b := ⟨_, rfl⟩
        rw [hb7] at HA7
        rw [hb7]
        clear hb7
        have c50 : w8.cell? ⟨b5, 0, none⟩ = some (.int .i64 4) := (cell_at HA58.out 0).trans rfl
        have c53 : w8.cell? ⟨b5, 3, none⟩ = some (.int .i64 pv) := (cell_at HA58.out 3).trans rfl
        have c60 : w8.cell? ⟨b6, 0, none⟩ = some (.int .i64 6) := (cell_at HA68.out 0).trans rfl
        have c63 : w8.cell? ⟨b6, 3, none⟩ = some (.int .i64 (pv + 1)) := (cell_at HA68.out 3).trans rfl
        have c70 : w8.cell? ⟨b7, 0, none⟩ = some (.int .i64 1) := (cell_at HA7.out 0).trans rfl
        clear HA58 HA68 HA7
        rw [HEX.out.2.1, HEX.out.2.2]
        go_wp2_with fail
        obtain ⟨lv8, hlg⟩ := (HLG.out _ HB8.out).sys.log
        refine (room_log _ lp dp lv8 C.S.l _ hlg).mono ?_
        rintro e w9 ⟨rfl, hb⟩
        have HB9 := Aside0.mk (below_step HB8.out hb)
        clear hb hlg
        go_wp2_with fail
        go_ret
        exact ⟨rfl, below_step HBA.out (below_step HB2.out HB9.out)⟩
end Go.Proofs.YtaplpeoikebedaaGreatDoor.WalkForwardRecords
