/- Joined texts: FwdB, PageO. No condition but what each says. -/
import Derived.Test.YtaplpeoikebedaaGreatDoorV26
import Derived.Test.YtaplpeoikebedaaGreatDoorV20
import Derived.Test.YtaplpeoikebedaaGreatDoorV22
import Derived.Deep.RegionLaw
set_option maxHeartbeats 8000000
set_option maxRecDepth 100000
set_option linter.unusedVariables false
set_option linter.unusedSimpArgs false
namespace Go.Proofs.YtaplpeoikebedaaGreatDoor.FwdB
open Go.RowKit Go.Maps YtaplpeoikebedaaGreatDoorW.PrintWords YtaplpeoikebedaaGreatDoorW.PrintLast YtaplpeoikebedaaGreatDoorW.PrintMore
open See Mem Page Disk DiskN DiskW RecD Dirty Wal WalF SysD SysM Pager StoreD StoreF StoreI StoreJ RoomD TransT LockT LockU SpaceT WaitT FwdM FwdP FwdC FwdE FwdN
attribute [local go_sem] max2_imax min2_imin max_two min_two
theorem neq_same (a : Addr) (w : World) : (binOp .neq 37 (.iface 333 (.pointer (some a))) (.iface 333 (.pointer (some a)))).run Tryz.prog w = .ok (.bool false) w := by
  obtain ⟨i, hi, hc⟩ := Option.map_eq_some_iff.1 infoTES
  obtain ⟨j, hj, _⟩ := Option.map_eq_some_iff.1 infoTES2
  simp only [binOp]
  simp [Op.equal, Op.maxDepth, run_equalIn_iface_ptr_same w 9998 a Tryz.underlying37 Tryz.underlying333 hi hc hj]
theorem ts_len {F : FS} (h : TOk F) : (F.ts.length : Int) ≤ F.most := by
  have h1 : (F.ts.map (·.id)).Nodup := by
    have := h.rise
    unfold kvT Rising at this
    rw [List.pairwise_map] at this
    unfold List.Nodup
    rw [List.pairwise_map]
    exact this.imp fun hab e => by simp at hab; omega
  have h2 := nodup_sub (b := (List.range F.most.toNat).map fun k : Nat => (k : Int) + 1) h1 fun x hx => by
    obtain ⟨t, ht, rfl⟩ := List.mem_map.1 hx
    have := h.ids t ht
    exact List.mem_map.2 ⟨(t.id - 1).toNat, List.mem_range.2 (by omega), by omega⟩
  have := h.most
  simp at h2
  omega
theorem room_top {N m : Nat} {F : FS} (h : GOk N m F) : F.free ≤ 1073741824 ∧ F.kept ≤ 1073741824 := by
  obtain ⟨h1, h2, h3⟩ := h.room
  have h4 := h.lok.base
  have h5 : F.S.l.room ≤ 1073741824 := by
    unfold Lg.room Lg.last
    omega
  omega
def BeginPost (a : Nat → Addr) (M : Nat → Prop) (sp lp pp dp qp mp : Nat) (blocks frames : Int) (F : FS) (n : Int) (w : World) (e : Ending) (w' : World) : Prop :=
  (3 ≤ F.free ∧ e = .returned .nilIface ∧ FwPost M sp lp pp dp qp mp blocks frames (beginF F n) w w') ∨ (F.free < 3 ∧ e = .returned (errv a (some 8)) ∧ FwPost M sp lp pp dp qp mp blocks frames F w w')
theorem begin_calls (a : Nat → Addr) (M : Nat → Prop) (sp lp pp dp qp mp : Nat) (blocks frames : Int) (F : FS) (n : Int) (N m : Nat) (ch : Int → List Int) (kp : Int → Int) (w : World) (h : FwM M w sp lp pp dp qp mp blocks frames F) (hok : FOk N m ch kp F) (hs : SentsAll w a) (hO : OutAll M a) (h0 : 0 ≤ n) (h1 : n < F.sess) (h2 : F.sess ≤ 1000) (hof : F.of n = 0) (hm : F.most < 60000) :
    Calls Tryz.prog 20 #[.pointer (some ⟨sp, 0, none⟩), .int .i64 n] w (BeginPost a M sp lp pp dp qp mp blocks frames F n w) := by
  have HC := Aside0.mk (called_none M sp lp pp dp qp mp blocks frames F n w h h0 h1 h2 (by rw [hof]; exact tx_none hok.t) a (hs.k _ (by decide)) hok.t.rise)
  have HF := Aside0.mk h
  have HOK := Aside0.mk hok
  have HS := Aside0.mk hs
  have HO := Aside0.mk hO
  have HOF := Aside0.mk hof
  have HM := Aside0.mk (And.intro hm hok.t.most.1)
  have HN := Aside0.mk (And.intro h0 (And.intro h1 h2))
  have hspl : sp < w.heap.size := by obtain ⟨kv, tv, b1, _⟩ := h.box; exact heap_lt b1
  clear h hok hs hO hof hm h0 h1 h2
  go_enter Tryz.func20, Tryz.ntmps20
  go_wp2_with fail
  refine HC.out.mono ?_
  rintro e w1 ⟨rfl, hb⟩
  have hbW := below_alloc hb z4
  obtain ⟨W, hW⟩ : ∃ W, w1.alloc z4 = W := ⟨_, rfl⟩
  have hg12 : (w1.alloc z4).cell? ⟨1, 0, none⟩ = some (.iface 333 (.pointer (some (a 12)))) := (HS.out.below hbW).cell 12 (by decide)
  have hg8 : (w1.alloc z4).cell? ⟨2, 0, none⟩ = some (.iface 333 (.pointer (some (a 8)))) := (HS.out.below hbW).cell 8 (by decide)
  have he := neq_same (a 12) (w1.alloc z4)
  have HFW := Aside0.mk (HF.out.below hbW)
  obtain ⟨_, _, k4, _, _, _, k10, k11⟩ := HFW.out.cells
  have HBW := Aside0.mk hbW
  have hsW : sp < w1.heap.size := by have := hb.size; omega
  have HWE := Aside0.mk hW
  simp only [txV, tx0, z4, errv] at *
  clear hb hbW hW
  go_wp2_with fail
  refine (free_space qp F.free F.kept _ HFW.out.room).mono ?_
  rintro e w' ⟨rfl, rfl⟩
  have HSW := Aside0.mk (HS.out.below HBW.out)
  by_cases hfr : F.free < 3
  · have HR := Aside0.mk (FwPost.back (FwPost.refl HFW.out) HBW.out)
    have HFR := Aside0.mk hfr
    go_wp2_with fail
    go_ret
    exact .inr ⟨HFR.out, rfl, HR.out⟩
  · have HFR := Aside0.mk hfr
    obtain ⟨cs, tv, htx, hput⟩ := FwM.txs HFW.out HOK.out.t.rise
    have HTX := Aside0.mk htx
    have HPUT := Aside0.mk hput
    clear htx hput
    go_wp2_with fail
    refine (tbegin_calls M sp 8 118 cs tv F.ts F.most _ HTX.out (fun t ht => (HOK.out.t.ids t ht).2) (by have := ts_len HOK.out.t; have := HOK.out.t.most; omega) ⟨HM.out.2, HM.out.1⟩).mono ?_
    rintro e w2 ⟨rfl, hpost⟩
    have HP2 := Aside0.mk (HPUT.out _ _ _ (by omega) hpost)
    obtain ⟨v2, ht2, hf2⟩ := hpost
    have HRS := Aside0.mk ht2.rise
    clear ht2
    have HOF2 := Aside0.mk (OfM.frm HFW.out.of hf2 (by decide))
    have HS2 := Aside0.mk (SentsAll.kp HSW.out HP2.out.2 HO.out)
    obtain ⟨_, _, j4, _, _, _, j10, j11⟩ := HP2.out.1.cells
    clear hf2 HTX HPUT
    obtain ⟨lv, hlg⟩ := HP2.out.1.sys.log
    have HLG := Aside0.mk hlg
    obtain ⟨e1, e2, e3, _⟩ := pg_append HOK.out.g.pg (r := recBegin (F.most + 1)) (recBegin_ok (by have := HM.out; omega) (by have := HM.out; omega)) (by have := HOK.out.g.room; omega) HOK.out.g.fit
    have HE := Aside0.mk (And.intro e1 (And.intro e2 e3))
    clear hlg e1 e2 e3 he hg12 hg8
    go_wp2_with fail
    refine (append_log a _ lp dp lv F.S.l (recBegin (F.most + 1)) _ (HS2.out.k _ (by decide)) HLG.out).mono ?_
    rintro e w3 ⟨rfl, v3, hl3, hf3⟩
    rw [HE.out.2.2] at hl3
    rw [HE.out.1, HE.out.2.1, show errv a none = .nilIface from rfl]
    have HP3 := Aside0.mk (FwM.lg HP2.out.1 ⟨v3, hl3⟩ hf3)
    have HOF3 := Aside0.mk (OfM.frm HOF2.out hf3 (by decide))
    obtain ⟨_, _, i4, _, _, _, i10, i11⟩ := HP3.out.1.cells
    clear hl3 hf3
    go_wp2_with fail
    refine (ask_space _ qp F.free F.kept 1 2 _ HP3.out.1.room HP3.out.1.low.2.1 (by omega) (by omega) (by omega) (room_top HOK.out.g).1 HOK.out.g.room.2.1 (room_top HOK.out.g).2).mono ?_
    rintro e w4 ⟨rfl, hs4, hf4⟩
    have HP4 := Aside0.mk (FwM.spc HP3.out.1 hs4 hf4)
    have HOF4 := Aside0.mk (OfM.frm HOF3.out hf4 (by decide))
    obtain ⟨_, _, _, _, _, _, _, i11⟩ := HP4.out.1.cells
    clear hs4 hf4
    obtain ⟨n0, D, hown, hn0, hat⟩ := HOF4.out
    have HOWN := Aside0.mk hown
    have HAT := Aside0.mk hat
    have hn1 : n0 < 60000 := by have := HM.out; omega
    have HN0 := Aside0.mk hn0
    have HWF := Aside0.mk (wf64 (n := n) (by have := HN.out; omega) (by have := HN.out; omega))
    have HWV := Aside0.mk (wf64 (n := F.most + 1) (by have := HM.out; omega) (by have := HM.out; omega))
    clear hown hat hn0
    go_wp2_with (first | (at_mapUpdate; refine wpList_mapUpdate_own _ rfl _ _ _ 116 rfl 3 3 (int_keyed Tryz.underlying3) Tryz.underlying116 _ mp n0 D rfl HOWN.out (by unfold maxLen; omega) _ _ (.int .i64 n) rfl rfl (keyOf_int_mk Tryz.underlying3 HWF.out) (.lit (.int .i64 (F.most + 1))) [] (plainElem_int Tryz.underlying3 HWV.out) ?_; intro w5 hown5 hg5))
    have HOF5 := Aside0.mk (ofm_put (m := F.most + 1) HOWN.out HAT.out hown5 (by have := HN0.out; omega))
    have HP5 := Aside0.mk (FwM.mp_ HP4.out.1 HOF5.out hg5)
    clear hown5 hg5 i11
    obtain ⟨cs5, tv5, htx, hput⟩ := FwM.txs HP5.out.1 HRS.out
    have HTX := Aside0.mk htx
    have HPUT := Aside0.mk hput
    clear htx hput
    refine (tnote_calls _ sp 8 118 cs5 tv5 (F.ts ++ [⟨F.most + 1, 0, 0, 0⟩]) (F.most + 1) (F.most + 1) (F.S.l.last + 1) 0 _ HTX.out ((thas_iff HRS.out _).2 ⟨_, List.mem_append_right _ (List.mem_singleton.2 rfl), rfl⟩)).mono ?_
    rintro e w6 ⟨rfl, hpost⟩
    have HP6 := Aside0.mk (HPUT.out _ _ _ (Int.le_refl _) hpost)
    clear hpost HTX HPUT
    have HPA := Aside0.mk (FwPost.back (FwPost.trans HP2.out fun _ => FwPost.trans HP3.out fun _ => FwPost.trans HP4.out fun _ => FwPost.trans HP5.out fun _ => HP6.out) HBW.out)
    have HTS := Aside0.mk (begin_ts (ts := F.ts) (m := F.most) (l := F.S.l.last + 1) fun t ht => (HOK.out.t.ids t ht).2)
    go_wp2_with fail
    go_ret
    refine .inl ⟨by have := HFR.out; omega, rfl, ?_⟩
    have h := HPA.out
    simp only [HTS.out] at h
    exact h
end Go.Proofs.YtaplpeoikebedaaGreatDoor.FwdB
namespace Go.Proofs.YtaplpeoikebedaaGreatDoor.PageO
open Go.RowKit YtaplpeoikebedaaGreatDoorW.PrintWords YtaplpeoikebedaaGreatDoorW.PrintLast YtaplpeoikebedaaGreatDoorW.PrintMore
open See Mem Clone Go.Proofs.YtaplpeoikebedaaGreatDoor.Cell Page PageB PageR PageL Dirty Dirty2 SysD Rw Del Ins2 StoreD PageM
attribute [local go_sem] max2_imax min2_imin max_two min_two
theorem clos_efind (pg fr n : Int) (w : World) :
    Calls Tryz.prog 183 #[.agg #[.int .i64 pg, .int .i64 fr], .int .i64 n] w fun e w' => e = .returned (.int .i64 (cmpI pg n)) ∧ Below w.heap.size w w' := by
  go_enter Tryz.func183, Tryz.ntmps183
  go_wp2_with fail
  refine (compare_calls pg n _).mono ?_
  rintro e w' ⟨rfl, rfl⟩
  go_wp2_with fail
  go_ret
  exact ⟨by simp, below_alloc (Below.refl _ _) _⟩
theorem esearch_calls (v : Value) (ds : List (Int × Int)) (n : Int) (w : World) (hp : P2 w 169 v ds) (hr : Rising ds) :
    Calls Tryz.prog 182 #[v, .int .i64 n, .func (.func 183) #[] #[]] w fun e w' => e = .returned (.tuple #[.int .i64 (pos ds n : Nat), .bool (has ds n)]) ∧ Below w.heap.size w w' := by
  obtain ⟨A, cap, rfl, _⟩ := ow_slice hp.1
  obtain ⟨l, hl⟩ : ∃ l, ds.length = l := ⟨_, rfl⟩
  have HL := Aside0.mk hl
  have HP := Aside0.mk hp
  have HR := Aside0.mk hr
  have hl5 : l ≤ 100000 := by rw [← hl]; exact hp.2
  rw [hl]
  clear hp hr hl
  go_enter Tryz.func182, Tryz.ntmps182
  go_wp2_with fail
  go_loopg [9, 10] (l + 1) (fun kq v9 v10 w' => ∃ i j : Int, v9 = .int .i64 i ∧ v10 = .int .i64 j ∧ Aside0 (0 ≤ i ∧ i ≤ j ∧ j ≤ l ∧ (kq : Int) = j - i + 1) ∧ Aside0 (∀ (k : Nat) (d : Int × Int), (k : Int) < i → ds[k]? = some d → d.1 < n) ∧ Aside0 (∀ (k : Nat) (d : Int × Int), j ≤ (k : Int) → ds[k]? = some d → ¬ d.1 < n) ∧ Aside0 (Below w.heap.size w w'))
  case atStart => exact ⟨0, l, rfl, rfl, ⟨by omega, by omega, by omega, by omega⟩, ⟨fun k d h => by omega⟩, ⟨fun k d h hd => by have := (List.getElem?_eq_some_iff.1 hd).1; have := HL.out; omega⟩, ⟨Below.refl _ _⟩⟩
  case round =>
    obtain ⟨i, j, rfl, rfl, HI, HA, HZ, HB⟩ := hrel
    have hi0 : 0 ≤ i := HI.out.1
    have hj0 : j ≤ 100000 := by have := HI.out; omega
    by_cases hlt : i < j
    · have hij : 0 ≤ i + j := by omega
      have hij2 : i + j ≤ 200000 := by omega
      obtain ⟨h, hh⟩ : ∃ h, (i + j) / 2 = h := ⟨_, rfl⟩
      have hh0 : 0 ≤ h := by omega
      have hhi : i ≤ h := by omega
      have hhj : h < j := by omega
      have hhl : h < l := by have := HI.out; omega
      have hhb : h ≤ 100000 := by omega
      obtain ⟨⟨pg, fr⟩, hd⟩ : ∃ d, ds[h.toNat]? = some d := ⟨_, List.getElem?_eq_getElem (by have := HL.out; omega)⟩
      obtain ⟨g, rfl⟩ : ∃ g, A = some ⟨g, 0, none⟩ := by
        rcases HP.out.form with ⟨_, h0⟩ | ⟨g, c, hv, _⟩
        · rw [h0] at hd; simp at hd
        · injection hv with h1; exact ⟨g, h1⟩
      have hcl : wr.cell? ⟨g, h.toNat * 2, none⟩ = some (.int .i64 pg) ∧ wr.cell? ⟨g, h.toNat * 2 + 1, none⟩ = some (.int .i64 fr) := by
        rcases (P2.below HP.out HB.out).form with ⟨_, h0⟩ | ⟨g', c, hv, hc, _⟩
        · rw [h0] at hd; simp at hd
        · injection hv with h1; injection h1 with h1; injection h1 with h1; subst h1; exact hc _ _ hd
      obtain ⟨hd0, hd1⟩ := hcl
      have HD := Aside0.mk hd
      have HHH := Aside0.mk (And.intro hhi hhj)
      clear hd hhi hhj
      go_wp2_with fail
      refine (clos_efind pg fr n _).mono ?_
      rintro e w1 ⟨rfl, hb⟩
      replace HB := Aside0.mk (below_step HB.out hb)
      clear hb hd0 hd1
      by_cases hc : pg < n
      · have hq : decide (cmpI pg n < 0) = true := by unfold cmpI; rw [if_pos hc]; rfl
        have HC := Aside0.mk hc
        clear hc
        go_wp2_with fail
        go_roundg (gk - (h + 1 - i).toNat)
        case measure => have := HI.out; have := HHH.out; omega
        case rel =>
          refine ⟨h + 1, j, rfl, rfl, ⟨by omega, by have := HHH.out; omega, by have := HI.out; omega, by have := HI.out; have := HHH.out; omega⟩, ⟨fun k d hk hd => ?_⟩, HZ, HB⟩
          rcases (show (k : Int) < h ∨ k = h.toNat by omega) with h1 | h1
          · obtain ⟨hk1, hk2⟩ := List.getElem?_eq_some_iff.1 hd
            obtain ⟨hg1, hg2⟩ := List.getElem?_eq_some_iff.1 HD.out
            have := List.pairwise_iff_getElem.1 HR.out k h.toNat hk1 hg1 (by omega)
            rw [hk2, hg2] at this
            have hc := HC.out
            simp only at this
            omega
          · subst h1
            rw [HD.out] at hd
            injection hd with hd
            subst hd
            exact HC.out
      · have hq : decide (cmpI pg n < 0) = false := by unfold cmpI; rw [if_neg hc]; split <;> rfl
        have HC := Aside0.mk hc
        clear hc
        go_wp2_with fail
        go_roundg (gk - (j - h).toNat)
        case measure => have := HI.out; have := HHH.out; omega
        case rel =>
          refine ⟨i, h, rfl, rfl, ⟨by omega, by have := HHH.out; omega, by omega, by have := HI.out; have := HHH.out; omega⟩, HA, ⟨fun k d hk hd => ?_⟩, HB⟩
          rcases (show h < (k : Int) ∨ k = h.toNat by omega) with h1 | h1
          · obtain ⟨hk1, hk2⟩ := List.getElem?_eq_some_iff.1 hd
            obtain ⟨hg1, hg2⟩ := List.getElem?_eq_some_iff.1 HD.out
            have := List.pairwise_iff_getElem.1 HR.out h.toNat k hg1 hk1 (by omega)
            rw [hk2, hg2] at this
            have hc := HC.out
            simp only at this
            omega
          · subst h1
            rw [HD.out] at hd
            injection hd with hd
            subst hd
            exact HC.out
    · have HIJ := Aside0.mk (show i = j by have := HI.out; omega)
      have HPOS := Aside0.mk (show ((pos ds n : Nat) : Int) = i by
        rw [pos_eq ds n i.toNat (by have := HI.out; have := HL.out; omega) (fun k d hk hd => HA.out k d (by omega) hd) (fun d hd => HZ.out i.toNat d (by have := HIJ.out; omega) hd)]
        omega)
      by_cases hil : i < l
      · obtain ⟨⟨pg, fr⟩, hd⟩ : ∃ d, ds[i.toNat]? = some d := ⟨_, List.getElem?_eq_getElem (by have := HL.out; omega)⟩
        obtain ⟨g, rfl⟩ : ∃ g, A = some ⟨g, 0, none⟩ := by
          rcases HP.out.form with ⟨_, h0⟩ | ⟨g, c, hv, _⟩
          · rw [h0] at hd; simp at hd
          · injection hv with h1; exact ⟨g, h1⟩
        have hcl : wr.cell? ⟨g, i.toNat * 2, none⟩ = some (.int .i64 pg) ∧ wr.cell? ⟨g, i.toNat * 2 + 1, none⟩ = some (.int .i64 fr) := by
          rcases (P2.below HP.out HB.out).form with ⟨_, h0⟩ | ⟨g', c, hv, hc, _⟩
          · rw [h0] at hd; simp at hd
          · injection hv with h1; injection h1 with h1; injection h1 with h1; subst h1; exact hc _ _ hd
        obtain ⟨hd0, hd1⟩ := hcl
        have HHAS := Aside0.mk (show has ds n = (cmpI pg n == 0) by
          unfold has
          rw [show pos ds n = i.toNat from by have := HPOS.out; omega, hd]
          have hz := HZ.out i.toNat _ (by have := HIJ.out; omega) hd
          simp only at hz
          unfold cmpI
          rw [if_neg hz]
          by_cases h : n < pg
          · rw [if_pos h]; simp; omega
          · rw [if_neg h]; simp; omega)
        clear hd
        have hlt2 : decide (i < (l : Int)) = true := decide_eq_true hil
        go_wp2_with fail
        refine (clos_efind pg fr n _).mono ?_
        rintro e w1 ⟨rfl, hb⟩
        replace HB := Aside0.mk (below_step HB.out hb)
        clear hb hd0 hd1
        go_wp2_with fail
        exact bodyPost_ret (v := .tuple #[.int .i64 i, .bool (cmpI pg n == 0)]) (by simp [results, Tryz.results182, go_sem]) rfl ⟨by rw [HPOS.out, HHAS.out], HB.out⟩
      · have HHAS := Aside0.mk (show has ds n = false by
          unfold has
          rw [show pos ds n = i.toNat from by have := HPOS.out; omega, List.getElem?_eq_none (by have := HL.out; omega)])
        go_wp2_with fail
        exact bodyPost_ret (v := .tuple #[.int .i64 i, .bool false]) (by simp [results, Tryz.results182, go_sem]) rfl ⟨by rw [HPOS.out, HHAS.out], HB.out⟩
theorem efind_calls (lsn : Int) (v : Value) (es : List (Int × Int)) (n : Int) (w : World) (hp : P2 w 169 v es) (hr : Rising es) :
    Calls Tryz.prog 126 #[.agg #[.int .i64 lsn, v], .int .i64 n] w fun e w' => e = .returned (.tuple #[.int .i64 (pos es n : Nat), .bool (has es n)]) ∧ Below w.heap.size w w' := by
  have HP := Aside0.mk hp
  have HR := Aside0.mk hr
  obtain ⟨A, cap, hv, _⟩ := ow_slice hp.1
  obtain ⟨l, hl⟩ : ∃ l, es.length = l := ⟨_, rfl⟩
  rw [hl] at hv
  clear hp hr hl
  subst hv
  go_enter Tryz.func126, Tryz.ntmps126
  go_wp2_with fail
  refine (esearch_calls (.slice A l cap) es n _ (HP.out.below (by repeat (first | exact Below.refl _ _ | apply below_drew1 | apply below_alloc))) HR.out).mono ?_
  rintro e w1 ⟨rfl, hb⟩
  have HB := Aside0.mk (below_step (below_alloc (Below.refl w.heap.size w) (.cells #[.int .i64 lsn, .slice A l cap] 74)) hb)
  clear hb
  go_wp2_with fail
  exact bodyPost_ret (v := .tuple #[.int .i64 (pos es n : Nat), .bool (has es n)]) (by simp [results, Tryz.results126, go_sem]) rfl ⟨rfl, HB.out⟩
theorem eget_calls (lsn : Int) (v : Value) (es : List (Int × Int)) (n : Int) (w : World) (hp : P2 w 169 v es) (hr : Rising es) :
    Calls Tryz.prog 70 #[.agg #[.int .i64 lsn, v], .int .i64 n] w fun e w' => e = .returned (.tuple #[.int .i64 (fromOf es n), .bool (has es n)]) ∧ Below w.heap.size w w' := by
  have HP := Aside0.mk hp
  have HR := Aside0.mk hr
  have HFIND := Aside0.mk (fun (W : World) (hb : Below w.heap.size w W) => efind_calls lsn v es n W (hp.below hb) hr)
  obtain ⟨A, cap, hv, _⟩ := ow_slice hp.1
  obtain ⟨l, hl⟩ : ∃ l, es.length = l := ⟨_, rfl⟩
  have HL := Aside0.mk hl
  rw [hl] at hv
  clear hp hr hl
  subst hv
  obtain ⟨k, hk⟩ : ∃ k : Int, ((pos es n : Nat) : Int) = k := ⟨_, rfl⟩
  cases hh : has es n with
  | false =>
    have HF := Aside0.mk (show fromOf es n = 0 by unfold fromOf; rw [hh]; rfl)
    have HFD' := Aside0.mk (fun (W : World) (hb : Below w.heap.size w W) => by have h := HFIND.out W hb; rw [hh, hk] at h; exact h)
    clear hh hk HFIND
    go_enter Tryz.func70, Tryz.ntmps70
    go_wp2_with fail
    refine (HFD'.out _ (by repeat (first | exact Below.refl _ _ | apply below_drew1 | apply below_alloc))).mono ?_
    rintro e w1 ⟨rfl, hb⟩
    have HB := Aside0.mk (below_step (below_alloc (Below.refl w.heap.size w) (.cells #[.int .i64 lsn, .slice A l cap] 74)) hb)
    clear hb
    go_wp2_with fail
    exact bodyPost_ret (v := .tuple #[.int .i64 0, .bool false]) (by simp [results, Tryz.results70, go_sem]) rfl ⟨by rw [HF.out], HB.out⟩
  | true =>
    obtain ⟨fr, hd⟩ := pos_has hh
    have HF := Aside0.mk (show fromOf es n = fr by unfold fromOf; rw [hh, hd]; rfl)
    have HFD' := Aside0.mk (fun (W : World) (hb : Below w.heap.size w W) => by have h := HFIND.out W hb; rw [hh, hk] at h; exact h)
    have hlt := (List.getElem?_eq_some_iff.1 hd).1
    have hk0 : 0 ≤ k := by omega
    have hkl : k < (l : Int) := by have := HL.out; omega
    have hkn : k.toNat = pos es n := by omega
    have HD := Aside0.mk (show es[k.toNat]? = some (n, fr) by rw [hkn]; exact hd)
    clear hh hk hd hlt hkn HFIND
    go_enter Tryz.func70, Tryz.ntmps70
    go_wp2_with fail
    refine (HFD'.out _ (by repeat (first | exact Below.refl _ _ | apply below_drew1 | apply below_alloc))).mono ?_
    rintro e w1 ⟨rfl, hb⟩
    have HB := Aside0.mk (below_step (below_alloc (Below.refl w.heap.size w) (.cells #[.int .i64 lsn, .slice A l cap] 74)) hb)
    have HBX := Aside0.mk (show w1.heap[w.heap.size]? = some (.cells #[.int .i64 lsn, .slice A l cap] 74 (0, 0)) from (hb.block w.heap.size (by simp)).trans (heap_alloc_new w _))
    have q1 : w1.cell? ⟨w.heap.size, 1, none⟩ = some (.slice A l cap) := by simp [World.cell?, HBX.out]
    rcases (P2.below HP.out HB.out).form with ⟨_, h0⟩ | ⟨g, c, hv, hcl, _⟩
    · have := HL.out; rw [h0] at this; simp at this; omega
    · injection hv with hv1 hv2 hv3
      subst hv1
      obtain ⟨hc0, hc1⟩ := hcl _ _ HD.out
      clear hb hcl
      go_wp2_with fail
      exact bodyPost_ret (v := .tuple #[.int .i64 fr, .bool true]) (by simp [results, Tryz.results70, go_sem]) rfl ⟨by rw [HF.out], HB.out⟩
theorem place_calls (key P : Int) (h0 : 0 ≤ key) (h1 : key < 1048576) (h2 : 1 ≤ P) (h3 : P ≤ 1000) (w : World) :
    Calls Tryz.prog 125 #[.int .i64 key, .int .i64 P] w fun e w' => e = .returned (.int .i64 (placeOf key P)) ∧ w = w' := by
  have hm : imax P 1 = P := by unfold imax; split <;> omega
  have hP : ¬ P = 0 := by omega
  have hin := placeOf_in key h2
  have hpl : placeOf key P = 1 + key * 2654435761 % 4294967296 / 65536 % P := by
    unfold placeOf
    rw [show max P 1 = P by omega]
  have hww : wrap64 (1 + key * 2654435761 % 4294967296 / 65536 % P) = placeOf key P := by
    rw [← hpl]
    unfold wrap64
    omega
  have HW := Aside0.mk hww
  clear hpl hww hin
  go_enter Tryz.func125, Tryz.ntmps125
  go_wp2
  go_ret
  exact ⟨by rw [← HW.out]; simp, rfl⟩
theorem clone_p2 {w w1 W : World} {v : Value} {es : List (Int × Int)} (hp : P2 w 169 v es) (hb : Below w.heap.size w w1) (h1 : Below w1.heap.size w1 W) :
    Calls Tryz.prog 146 #[v] W fun e w' => ∃ A2 c2, e = .returned (.slice A2 es.length c2) ∧ (w'.ownsRow w1.heap.size 169 2 (.slice A2 es.length c2) es.length (cells2 es)) ∧ Below w1.heap.size w1 w' := by
  refine (clone_entries v es.length (cells2 es) W (P2.rd ((hp.below hb).below h1)) (cells2_one es)).mono ?_
  rintro e w2 ⟨v2, rfl, ho, hb2⟩
  obtain ⟨A2, c2, rfl, _⟩ := ow_slice ho
  exact ⟨A2, c2, rfl, ow_base ho h1.size, below_step h1 hb2⟩
theorem clone_p2_keep {w w1 W : World} {v : Value} {es : List (Int × Int)} {b : Nat} {o : Obj} (hp : P2 w 169 v es) (hb : Below w.heap.size w w1) (h1 : Below w1.heap.size w1 W) (hx : W.heap[b]? = some o) :
    Calls Tryz.prog 146 #[v] W fun e w' => ∃ A2 c2, e = .returned (.slice A2 es.length c2) ∧ (w'.ownsRow w1.heap.size 169 2 (.slice A2 es.length c2) es.length (cells2 es)) ∧ Below w1.heap.size w1 w' ∧ w'.heap[b]? = some o := by
  refine (clone_entries v es.length (cells2 es) W (P2.rd ((hp.below hb).below h1)) (cells2_one es)).mono ?_
  rintro e w2 ⟨v2, rfl, ho, hb2⟩
  obtain ⟨A2, c2, rfl, _⟩ := ow_slice ho
  exact ⟨A2, c2, rfl, ow_base ho h1.size, below_step h1 hb2, (hb2.block b (heap_lt hx)).trans hx⟩
theorem pg_cells {w : World} {b : Nat} {x0 x1 : Value} (h : w.heap[b]? = some (.cells #[x0, x1] 74 (0, 0))) : w.cell? ⟨b, 0, none⟩ = some x0 ∧ w.cell? ⟨b, 1, none⟩ = some x1 ∧ w.frozen? ⟨b, 0, none⟩ = false ∧ w.frozen? ⟨b, 1, none⟩ = false := by
  refine ⟨?_, ?_, ?_, ?_⟩ <;> simp [World.cell?, World.frozen?, h]
end Go.Proofs.YtaplpeoikebedaaGreatDoor.PageO
