/- Joined texts: FwdK, RecsD. No condition but what each says. -/
import Derived.Test.YtaplpeoikebedaaGreatDoorQ34
import Derived.Test.YtaplpeoikebedaaGreatDoorQ26
import Derived.Test.YtaplpeoikebedaaGreatDoorQ28
namespace Go.Proofs.YtaplpeoikebedaaGreatDoor.FwdK
open Go.RowKit Go.Maps Go.Proofs.YtaplpeoikebedaaGreatDoorW.PrintWords Go.Proofs.YtaplpeoikebedaaGreatDoorW.PrintLast Go.Proofs.YtaplpeoikebedaaGreatDoorW.PrintMore
open Go.Proofs.YtaplpeoikebedaaGreatDoor.See Go.Proofs.YtaplpeoikebedaaGreatDoor.Mem Go.Proofs.YtaplpeoikebedaaGreatDoor.Page Go.Proofs.YtaplpeoikebedaaGreatDoor.Disk Go.Proofs.YtaplpeoikebedaaGreatDoor.DiskN Go.Proofs.YtaplpeoikebedaaGreatDoor.DiskW Go.Proofs.YtaplpeoikebedaaGreatDoor.RecD Go.Proofs.YtaplpeoikebedaaGreatDoor.Rec Go.Proofs.YtaplpeoikebedaaGreatDoor.Dirty Go.Proofs.YtaplpeoikebedaaGreatDoor.Wal Go.Proofs.YtaplpeoikebedaaGreatDoor.WalF Go.Proofs.YtaplpeoikebedaaGreatDoor.Pool2 Go.Proofs.YtaplpeoikebedaaGreatDoor.SysD Go.Proofs.YtaplpeoikebedaaGreatDoor.SysM Go.Proofs.YtaplpeoikebedaaGreatDoor.FlushG Go.Proofs.YtaplpeoikebedaaGreatDoor.StoreD Go.Proofs.YtaplpeoikebedaaGreatDoor.StoreF Go.Proofs.YtaplpeoikebedaaGreatDoor.StoreH Go.Proofs.YtaplpeoikebedaaGreatDoor.StoreK Go.Proofs.YtaplpeoikebedaaGreatDoor.ChainT Go.Proofs.YtaplpeoikebedaaGreatDoor.TransT Go.Proofs.YtaplpeoikebedaaGreatDoor.LockT Go.Proofs.YtaplpeoikebedaaGreatDoor.LockU Go.Proofs.YtaplpeoikebedaaGreatDoor.SpaceT Go.Proofs.YtaplpeoikebedaaGreatDoor.WaitT Go.Proofs.YtaplpeoikebedaaGreatDoor.FwdM Go.Proofs.YtaplpeoikebedaaGreatDoor.FwdP Go.Proofs.YtaplpeoikebedaaGreatDoor.FwdC Go.Proofs.YtaplpeoikebedaaGreatDoor.FwdN Go.Proofs.YtaplpeoikebedaaGreatDoor.FwdB Go.Proofs.YtaplpeoikebedaaGreatDoor.EndT Go.Proofs.YtaplpeoikebedaaGreatDoor.FwdL
attribute [local go_sem] max2_imax min2_imin max_two min_two
set_option linter.unusedVariables false
set_option linter.unusedSimpArgs false
set_option maxHeartbeats 8000000 in
set_option maxRecDepth 100000 in
theorem commit_calls (a : Nat → Addr) (M : Nat → Prop) (sp lp pp dp qp mp : Nat) (blocks frames : Int) (F : FS) (n id : Int) (N m : Nat) (ch : Int → List Int) (kp : Int → Int) (w : World) (h : FwM M w sp lp pp dp qp mp blocks frames F) (hok : FOk N m ch kp F) (hcm : CommitOk N m ch kp F n id) (hs : SentsAll w a) (hO : OutAll M a) (h0 : 0 ≤ n) (h1 : n < F.sess) (h2 : F.sess ≤ 1000) (hof : F.of n = id) (hid : thas F.ts id = true) (hm : m ≤ 30000) (hall : ∀ x ∈ F.ks, x.s = n) :
    Calls Tryz.prog 25 #[.pointer (some ⟨sp, 0, none⟩), .int .i64 n] w fun e w' => e = .returned .nilIface ∧ FwPost M sp lp pp dp qp mp blocks frames (commitF F n id ((ch id).length : Int)) w w' := by
  have HC := Aside0.mk (called_calls M sp lp pp dp qp mp blocks frames F n w h h0 h1 h2 (by rw [hof]; exact hid) hok.t.rise)
  have HF := Aside0.mk h
  have HS := Aside0.mk hs
  have HO := Aside0.mk hO
  have HOK := Aside0.mk hok
  have HCM := Aside0.mk hcm
  have HM := Aside0.mk hm
  have HALL := Aside0.mk hall
  have HOF := Aside0.mk (And.intro hof hid)
  have HN := Aside0.mk (And.intro h0 (And.intro h1 h2))
  obtain ⟨x, hxx⟩ : ∃ x, tget F.ts id = x := ⟨_, rfl⟩
  have htid := (tget_mem hid).2
  have HXX := Aside0.mk hxx
  rw [hof, hxx] at HC
  rw [hxx] at htid
  obtain ⟨xi, xs, xl, xn⟩ := x
  simp only at htid
  subst htid
  simp only [txV] at HC
  clear h hok hcm hs hO h0 h1 h2 hof hid hm hall hxx
  go_enter Tryz.func25, Tryz.ntmps25
  go_wp2_with fail
  refine HC.out.mono ?_
  rintro e w1 ⟨rfl, hb⟩
  obtain ⟨bx, hbx⟩ : ∃ bx, w1.heap.size = bx := ⟨_, rfl⟩
  obtain ⟨V0, hV0⟩ : ∃ V, w1.alloc (.cells #[.int .i64 xi, .int .i64 xs, .int .i64 xl, .int .i64 xn] 102) = V := ⟨_, rfl⟩
  have HXB := Aside0.mk (show V0.heap[bx]? = some (.cells #[.int .i64 xi, .int .i64 xs, .int .i64 xl, .int .i64 xn] 102 (0, 0)) by rw [← hV0, ← hbx]; exact heap_alloc_new _ _)
  have HB0 := Aside0.mk (show Below w.heap.size w V0 by rw [← hV0]; exact below_alloc hb _)
  have HL0 := Aside0.mk (LB.start HF.out HB0.out)
  have hbw : w.heap.size ≤ bx := by have := hb.size; omega
  have HWE := Aside0.mk (And.intro hV0 hbx)
  clear hb hbx hV0
  go_upto_region 2 with fail
  rw [HWE.out.1, HWE.out.2]
  have j4 := HL0.out.f.cells.2.2.1
  obtain ⟨x0, x1, x2, x3, _, _, _, _⟩ := tx_cells HXB.out
  have HALLC := Aside0.mk (show ∀ (V : World), Below V0.heap.size V0 V → Calls Tryz.prog 73 #[.pointer (some ⟨lp, 0, none⟩), .int .i64 xn] V fun e w' => ∃ v', e = .returned (.tuple #[v', .nilIface]) ∧ IS w' V.heap.size v' (ch xi) ∧ Below V.heap.size V w' from fun V hbl => by
    have hl := HL0.out.below hbl
    obtain ⟨lv, hlg⟩ := hl.f.sys.log
    have hc := HCM.out.chain
    rw [HXX.out] at hc
    exact all_calls _ lp dp lv F.S.l xn (ch xi) V hlg hc HCM.out.few)
  go_upto_region 4 with fail
  go_cut [7, 6] (fun v7 v6 wx => v6 = .nilIface ∧ (∃ A c, v7 = .slice A (ch xi).length c) ∧ Aside0 (Below V0.heap.size V0 wx))
  case first =>
    go_region_law (first
      | (go_simp; go_at_call 73; refine (HALLC.out _ (by repeat (first | exact Below.refl _ _ | apply below_drew1))).mono ?_; rintro e w4 ⟨v4, rfl, hi4, hb4⟩; obtain ⟨A4, c4, rfl, _⟩ := ow_slice hi4; have HB4 := Aside0.mk hb4; clear hi4 hb4))
    all_goals
      go_wp2_with fail
      go_meet
      exact ⟨rfl, ⟨_, _, rfl⟩, ⟨below_step (by repeat (first | exact Below.refl _ _ | apply below_drew1)) HB4.out⟩⟩
  case rest =>
    obtain ⟨rfl, ⟨A4, c4, rfl⟩, HB4⟩ := hcut
    generalize wc = V1 at HB4 ⊢
    have HL1 := Aside0.mk (HL0.out.below HB4.out)
    have HSS := Aside0.mk (HL1.out.sents HS.out HO.out)
    obtain ⟨k, hk⟩ : ∃ k, (ch xi).length = k := ⟨_, rfl⟩
    have HK := Aside0.mk hk
    rw [hk]
    clear x0 x1 x2 x3 j4 hk
    obtain ⟨x0, x1, x2, x3, _, _, _, _⟩ := tx_cells (HL1.out.at HXB.out hbw)
    have HFA := Aside0.mk (by
      have h4 := HCM.out.rec4
      rw [HXX.out] at h4
      exact fappend_calls a _ sp lp pp dp qp mp blocks frames F (recMark ⟨xi, xs, xl, xn⟩ 4) V1 HL1.out.f HSS.out.1 HSS.out.2 ⟨HCM.out.kept, (room_top HOK.out.g).2⟩ h4 HCM.out.room)
    simp only [recV, recMark] at HFA
    go_wp2_with fail
    refine HFA.out.mono ?_
    rintro e V2 ⟨rfl, hp2⟩
    have HL2 := Aside0.mk (HL1.out.step hp2)
    clear hp2 x0 x1 x2 x3 HFA
    obtain ⟨cs, tv, htx, hput⟩ := FwM.txs HL2.out.f HOK.out.t.rise
    have HTX := Aside0.mk htx
    have HPT := Aside0.mk hput
    clear htx hput
    have HNT := Aside0.mk (show ∀ (V : World), Below V2.heap.size V2 V → Calls Tryz.prog 66 #[.pointer (some ⟨sp, 8, none⟩), .int .i64 xi, .int .i64 (F.S.l.last + 1), .int .i64 xn] V (fun e w' => e = .returned (.bool true) ∧ ∃ R, LB M sp lp pp dp qp mp blocks frames { addK F (recMark ⟨xi, xs, xl, xn⟩ 4) with ts := tnote F.ts xi (F.S.l.last + 1) xn } w V0 R w') from fun V hbl => by
      have := tnote_calls _ sp 8 118 cs tv F.ts F.most xi (F.S.l.last + 1) xn V (HTX.out.below hbl) HOF.out.2
      exact this.mono fun e w' hh => by
        obtain ⟨rfl, hpost⟩ := hh
        exact ⟨rfl, _, HL2.out.step (HPT.out _ _ _ (Int.le_refl _) (hpost.back hbl))⟩)
    obtain ⟨x0, x1, x2, x3, _, _, _, _⟩ := tx_cells (HL2.out.at HXB.out hbw)
    go_upto_region 10 with fail
    go_cut [] (fun wx => ∃ R, Aside0 (LB M sp lp pp dp qp mp blocks frames { addK F (recMark ⟨xi, xs, xl, xn⟩ 4) with ts := tnote F.ts xi (F.S.l.last + 1) xn } w V0 R wx))
    case first =>
      go_region_law (first
        | (go_simp; go_at_call 66; refine (HNT.out _ (by repeat (first | exact Below.refl _ _ | apply below_drew1))).mono ?_; rintro e w6 ⟨rfl, R6, hl6⟩; have HL6 := Aside0.mk hl6; clear hl6))
      all_goals
        go_wp2_with fail
        go_meet
        exact ⟨R6, HL6⟩
    case rest =>
      obtain ⟨R3, HL3⟩ := hcut
      generalize wc = V3 at HL3 ⊢
      clear x0 x1 x2 x3 HTX HPT HNT
      have HRS := Aside0.mk (show Rising (kvT (tnote F.ts xi (F.S.l.last + 1) xn)) by have := HCM.out.rise1; rw [HXX.out] at this; exact this)
      have HHS := Aside0.mk (show thas (tnote F.ts xi (F.S.l.last + 1) xn) xi = true by have := HCM.out.has1; rw [HXX.out] at this; exact this)
      obtain ⟨cs2, tv2, htx, hput⟩ := FwM.txs HL3.out.f HRS.out
      have HTX := Aside0.mk htx
      have HPT := Aside0.mk hput
      clear htx hput
      have HST := Aside0.mk (show ∀ (V : World), Below V3.heap.size V3 V → Calls Tryz.prog 75 #[.pointer (some ⟨sp, 8, none⟩), .int .i64 xi, .int .i64 1] V (fun e w' => e = .returned (.bool true) ∧ ∃ R, LB M sp lp pp dp qp mp blocks frames (markF F xi 4 1) w V0 R w') from fun V hbl => by
        have := tstate_calls _ sp 8 118 cs2 tv2 (tnote F.ts xi (F.S.l.last + 1) xn) F.most xi 1 V (HTX.out.below hbl) HHS.out
        exact this.mono fun e w' hh => by
          obtain ⟨rfl, hpost⟩ := hh
          have hl := HL3.out.step (HPT.out _ _ _ (Int.le_refl _) (hpost.back hbl))
          have hmk : markF F xi 4 1 = { addK F (recMark ⟨xi, xs, xl, xn⟩ 4) with ts := tstate (tnote F.ts xi (F.S.l.last + 1) xn) xi 1 } := by
            unfold markF
            rw [HXX.out]
            rfl
          rw [hmk]
          exact ⟨rfl, _, hl⟩)
      obtain ⟨x0, x1, x2, x3, _, _, _, _⟩ := tx_cells (HL3.out.at HXB.out hbw)
      go_upto_region 11 with fail
      go_cut [] (fun wx => ∃ R, Aside0 (LB M sp lp pp dp qp mp blocks frames (markF F xi 4 1) w V0 R wx))
      case first =>
        go_region_law (first
          | (go_simp; go_at_call 75; refine (HST.out _ (by repeat (first | exact Below.refl _ _ | apply below_drew1))).mono ?_; rintro e w6 ⟨rfl, R6, hl6⟩; have HL6 := Aside0.mk hl6; clear hl6))
        all_goals
          go_wp2_with fail
          go_meet
          exact ⟨R6, HL6⟩
      case rest =>
        obtain ⟨R4, HL4⟩ := hcut
        generalize wc = V4 at HL4 ⊢
        clear x0 x1 x2 x3 HTX HPT HST
        have j4 := HL4.out.f.cells.2.2.1
        obtain ⟨lv, hlg⟩ := HL4.out.f.sys.log
        have HLG := Aside0.mk hlg
        have HS4 := Aside0.mk (HL4.out.sents HS.out HO.out)
        clear hlg
        go_wp2_with fail
        refine (flush_log a _ lp dp lv (markF F xi 4 1).S.l (markF F xi 4 1).S.d _ (HS4.out.1.k _ (by decide)) (HS4.out.2.k _ (by decide)) HL4.out.f.sys.dsk HLG.out HCM.out.ok1.g.fuse (HCM.out.ok1.g.loose.mono (by have := HM.out; omega))).mono ?_
        rintro e V5 ⟨rfl, hd5, hl5, hf5⟩
        rw [HCM.out.fine, show errv a none = .nilIface from rfl]
        have HL5 := Aside0.mk (show LB M sp lp pp dp qp mp blocks frames (flushF (markF F xi 4 1)) w V0 _ V5 from HL4.out.step (FwM.sy HL4.out.f (SysM.logd HL4.out.f.sys hd5 hl5 hf5 HCM.out.ok2.g.fuse) (frm_sys2 hf5)))
        have HS5 := Aside0.mk (HL5.out.sents HS.out HO.out)
        clear hd5 hl5 hf5 j4 HLG
        go_wp2_with fail
        refine (leave_calls a _ sp lp pp dp qp mp blocks frames (flushF (markF F xi 4 1)) n xi _ HL5.out.f HS5.out.1 HS5.out.2 HN.out.1 (by have := HN.out; omega) HOF.out.1 HCM.out.has2 HCM.out.ok2.t.rise (tget_mem HCM.out.has2).2 ⟨by have := HCM.out.kept2; omega, (room_top HCM.out.ok2.g).2⟩ HCM.out.rec6 HCM.out.room2 HALL.out).mono ?_
        rintro e V6 ⟨rfl, hp6⟩
        have HL6 := Aside0.mk (HL5.out.step hp6)
        clear hp6
        have j10 := HL6.out.f.cells.2.2.2.2.2.2.1
        go_wp2_with fail
        refine (let_space _ qp (flushF (markF F xi 4 1)).free ((flushF (markF F xi 4 1)).kept - 1) (k : Int) _ HL6.out.f.room HL6.out.f.low.2.1 (by omega) (by have := HCM.out.kept2; have := HK.out; omega) (by have := (room_top HCM.out.ok2.g).2; omega) HCM.out.ok2.g.room.1 (room_top HCM.out.ok2.g).1).mono ?_
        rintro e V7 ⟨rfl, hs7, hf7⟩
        have HL7 := Aside0.mk (HL6.out.step (FwM.spc HL6.out.f hs7 hf7))
        clear hs7 hf7 j10
        have HFE := Aside0.mk (show freeL (flushF (markF F xi 4 1)).ks n = [] from by
          unfold freeL
          rw [List.filter_eq_nil_iff]
          intro y hy
          have := HALL.out y hy
          simp [this])
        go_wp2_with fail
        go_ret
        refine ⟨rfl, ?_⟩
        have hp := HL7.out.post
        unfold commitF endF
        rw [HFE.out, HK.out]
        exact hp
end Go.Proofs.YtaplpeoikebedaaGreatDoor.FwdK
namespace Go.Proofs.YtaplpeoikebedaaGreatDoor.RecsD
open Go.RowKit Go.Proofs.YtaplpeoikebedaaGreatDoor.See Go.Proofs.YtaplpeoikebedaaGreatDoor.Mem Go.Proofs.YtaplpeoikebedaaGreatDoor.Page Go.Proofs.YtaplpeoikebedaaGreatDoor.PageB Go.Proofs.YtaplpeoikebedaaGreatDoor.PageR Go.Proofs.YtaplpeoikebedaaGreatDoor.PageL Go.Proofs.YtaplpeoikebedaaGreatDoor.Disk Go.Proofs.YtaplpeoikebedaaGreatDoor.DiskW Go.Proofs.YtaplpeoikebedaaGreatDoor.RecD Go.Proofs.YtaplpeoikebedaaGreatDoor.Dirty Go.Proofs.YtaplpeoikebedaaGreatDoor.Dirty2 Go.Proofs.YtaplpeoikebedaaGreatDoor.SysD Go.Proofs.YtaplpeoikebedaaGreatDoor.SysM Go.Proofs.YtaplpeoikebedaaGreatDoor.Wal Go.Proofs.YtaplpeoikebedaaGreatDoor.WalF Go.Proofs.YtaplpeoikebedaaGreatDoor.GoodD Go.Proofs.YtaplpeoikebedaaGreatDoor.PoolG Go.Proofs.YtaplpeoikebedaaGreatDoor.PoolS Go.Proofs.YtaplpeoikebedaaGreatDoor.FlushG Go.Proofs.YtaplpeoikebedaaGreatDoor.Fresh Go.Proofs.YtaplpeoikebedaaGreatDoor.DirtD Go.Proofs.YtaplpeoikebedaaGreatDoor.TabL Go.Proofs.YtaplpeoikebedaaGreatDoor.Pager Go.Proofs.YtaplpeoikebedaaGreatDoor.StoreD Go.Proofs.YtaplpeoikebedaaGreatDoor.PageM Go.Proofs.YtaplpeoikebedaaGreatDoor.StoreF Go.Proofs.YtaplpeoikebedaaGreatDoor.StoreG Go.Proofs.YtaplpeoikebedaaGreatDoor.StoreH Go.Proofs.YtaplpeoikebedaaGreatDoor.TransT Go.Proofs.YtaplpeoikebedaaGreatDoor.LockT Go.Proofs.YtaplpeoikebedaaGreatDoor.LockU Go.Proofs.YtaplpeoikebedaaGreatDoor.StoreI Go.Proofs.YtaplpeoikebedaaGreatDoor.StoreJ Go.Proofs.YtaplpeoikebedaaGreatDoor.StoreK Go.Proofs.YtaplpeoikebedaaGreatDoor.RoomD
set_option linter.unusedVariables false
set_option linter.unusedSimpArgs false
/-- What a put leaves of log and pages. -/
theorem put_log {N m : Nat} {ch : Int → List Int} {kp : Int → Int} {F : FS} {id key v : Int} {fp : Fp} (h : FOk N m ch kp F) (hid : thas F.ts id = true) (hf : findP F.S.here (placeOf key F.P) = some fp) (hk : 0 ≤ key ∧ key < 1048576) (hv : is64 v) (hold : is64 (fromOf (cur F.S (placeOf key F.P)).2 key)) (hfr : 2 ≤ F.free)
    (hrok : recOk (recSet (tget F.ts id) F.P key (has (cur F.S (placeOf key F.P)).2 key) (fromOf (cur F.S (placeOf key F.P)).2 key) true v) = true) (hlen : (redoE (cur F.S (placeOf key F.P)).2 (recSet (tget F.ts id) F.P key (has (cur F.S (placeOf key F.P)).2 key) (fromOf (cur F.S (placeOf key F.P)).2 key) true v)).length ≤ 20) :
    (setF F id key (has (cur F.S (placeOf key F.P)).2 key) (fromOf (cur F.S (placeOf key F.P)).2 key) true v).S.l = (addRec F.S (recSet (tget F.ts id) F.P key (has (cur F.S (placeOf key F.P)).2 key) (fromOf (cur F.S (placeOf key F.P)).2 key) true v)).l ∧
    ∀ j, cur (setF F id key (has (cur F.S (placeOf key F.P)).2 key) (fromOf (cur F.S (placeOf key F.P)).2 key) true v).S j = if j = placeOf key F.P then (F.S.l.last + 1, putE (cur F.S (placeOf key F.P)).2 key v) else cur F.S j := by
  obtain ⟨hg, ht, hc⟩ := h
  obtain ⟨ro1, ro2, ro3⟩ := hg.room
  obtain ⟨c1, c2, c3, c4, c5⟩ := chg_ok (r := recSet (tget F.ts id) F.P key (has (cur F.S (placeOf key F.P)).2 key) (fromOf (cur F.S (placeOf key F.P)).2 key) true v) (fr := F.free - 2) (kp := F.kept + 1) hg hf hrok ⟨hold, hv⟩ hk (by omega) hlen (by omega) (by omega) (by omega)
  exact ⟨c3, fun j => c4 j⟩
/-- Ahead of round i: so many changes were made, of keys below 30. -/
structure QSt (N i : Nat) (F : FS) (hs : Int → Bool) (vl : Int → Int) : Prop where
  ok : ∃ ch, FOk N i ch (fun _ => 2) F
  ks : KOk (fun _ => 0) F.ks
  kl : F.ks.length ≤ i
  kr : ∀ h ∈ F.ks, h.key < 30
  most : F.most = 1
  sess : F.sess = 1
  P : F.P = 8
  of : F.of 0 = 1
  has_ : thas F.ts 1 = true
  tx : (tget F.ts 1).last = F.S.l.last
  last : F.S.l.last = 1 + i
  base : F.S.l.base = 0
  free : F.free = 117 - 2 * i
  vals : ∀ k, 0 ≤ k → k < 30 → vals F k = if hs k then some (vl k) else none
  keys : ∀ p, 1 ≤ p → p ≤ 8 → ∀ e ∈ (cur F.S p).2, 0 ≤ e.1 ∧ e.1 < 30 ∧ placeOf e.1 8 = p
  first : recOf F.S.l 1 = some (recBegin 1)
def with_ (k : Nat) : List Nat := (List.range 30).filter fun j : Nat => placeOf (j : Int) 8 == placeOf (k : Int) 8 && j != k
theorem few_keys : (List.range 30).all (fun k => decide ((with_ k).length ≤ 19)) = true := by decide +kernel
theorem not_full {N i : Nat} {F : FS} {hs : Int → Bool} {vl : Int → Int} (h : QSt N i F hs vl) {k : Int} (hint : Int) (k0 : 0 ≤ k) (k1 : k < 30) (hno : has (cur F.S (placeOf k F.P)).2 k = false) : fullB (takesF F 0 k 2 hint) k = false := by
  obtain ⟨ch, hok⟩ := h.ok
  obtain ⟨t1, t2, t3, t4, t5, t6, t7, t8, t9⟩ := takes_ok (n := 0) (key := k) hok h.ks rfl ⟨k0, by omega⟩ hint
  obtain ⟨p1, p2⟩ := placeOf_in k hok.g.pg.pages
  have hcur := t5 _ p1 p2
  have hP : (takesF F 0 k 2 hint).P = 8 := h.P
  have hP0 := h.P
  rw [hP0] at hcur p1 p2 hno
  obtain ⟨es, hes⟩ : ∃ es, (cur F.S (placeOf k 8)).2 = es := ⟨_, rfl⟩
  have hrise : Rising es := by rw [← hes]; exact PageV.rise (hok.g.pg.curV p1 (by rw [hP0]; exact p2))
  have hkeys : ∀ e ∈ es, 0 ≤ e.1 ∧ e.1 < 30 ∧ placeOf e.1 8 = placeOf k 8 := by rw [← hes]; exact h.keys _ p1 p2
  rw [hes] at hno
  unfold fullB
  rw [hP, hcur, hes]
  refine decide_eq_false ?_
  obtain ⟨ml, hml⟩ : ∃ ml, moreL (takesF F 0 k 2 hint) k = ml := ⟨_, rfl⟩
  have hmem : ∀ j ∈ ml, has es j = false ∧ j ≠ k ∧ placeOf j 8 = placeOf k 8 ∧ 0 ≤ j ∧ j < 30 := by
    intro j hj
    rw [← hml] at hj
    unfold moreL at hj
    rw [List.mem_filter, hP, hcur, hes] at hj
    obtain ⟨q1, q2⟩ := hj
    simp only [Bool.and_eq_true, Bool.not_eq_true', bne_iff_ne, beq_iff_eq] at q2
    rw [t3.held] at q1
    obtain ⟨x, hx, rfl⟩ := List.mem_map.1 q1
    refine ⟨q2.1, q2.2.1, q2.2.2, (t3.rng x hx).1, ?_⟩
    have hx2 : x ∈ takeL F.ks 0 k 2 := hx
    unfold takeL at hx2
    split at hx2
    · rcases List.mem_append.1 hx2 with hx2 | hx2
      · exact h.kr x hx2
      · rw [List.mem_singleton] at hx2; rw [hx2]; exact k1
    · obtain ⟨j2, hj2⟩ := List.mem_iff_getElem?.1 hx2
      rw [List.getElem?_modify] at hj2
      cases hq : F.ks[j2]? with
      | none => rw [hq] at hj2; simp at hj2
      | some y =>
        rw [hq] at hj2
        have hy := h.kr y (List.mem_of_getElem? hq)
        simp at hj2
        rw [← hj2]
        split
        · exact hy
        · exact hy
  have hnd : ml.Nodup := by
    rw [← hml]
    unfold moreL
    rw [t3.held]
    exact t3.once.sublist List.filter_sublist
  have hall : (es.map (·.1) ++ ml).Nodup := by
    rw [List.nodup_append]
    refine ⟨?_, hnd, fun a ha b hb e => ?_⟩
    · unfold List.Nodup
      rw [List.pairwise_map]
      exact hrise.imp fun hab e => by omega
    · subst e
      obtain ⟨e, he, rfl⟩ := List.mem_map.1 ha
      have h1 := (hmem _ hb).1
      have h2 := (has_iff es e.1 hrise).2 ⟨e, he, rfl⟩
      rw [h1] at h2
      cases h2
  obtain ⟨kn, hkn⟩ : ∃ kn : Nat, (kn : Int) = k := ⟨k.toNat, by omega⟩
  have hsub := nodup_sub (b := (with_ kn).map fun j : Nat => (j : Int)) hall fun x hx => by
    have hx2 : 0 ≤ x ∧ x < 30 ∧ placeOf x 8 = placeOf k 8 ∧ x ≠ k := by
      rcases List.mem_append.1 hx with hx | hx
      · obtain ⟨e, he, rfl⟩ := List.mem_map.1 hx
        obtain ⟨a1, a2, a3⟩ := hkeys e he
        refine ⟨a1, a2, a3, fun e2 => ?_⟩
        have h2 := (has_iff es e.1 hrise).2 ⟨e, he, rfl⟩
        rw [e2, hno] at h2
        cases h2
      · obtain ⟨a1, a2, a3, a4, a5⟩ := hmem x hx
        exact ⟨a4, a5, a3, a2⟩
    obtain ⟨a1, a2, a3, a4⟩ := hx2
    refine List.mem_map.2 ⟨x.toNat, List.mem_filter.2 ⟨List.mem_range.2 (by omega), ?_⟩, by omega⟩
    rw [show ((x.toNat : Nat) : Int) = x by omega, hkn]
    simp only [Bool.and_eq_true, beq_iff_eq, bne_iff_ne]
    exact ⟨a3, by omega⟩
  rw [List.length_append, List.length_map, List.length_map] at hsub
  have hfk := List.all_eq_true.1 few_keys kn (List.mem_range.2 (by omega))
  have hfk2 := of_decide_eq_true hfk
  rw [hml]
  omega
theorem take_lt {ks : List Lk} {k : Int} (h : ∀ x ∈ ks, x.key < 30) (k1 : k < 30) : ∀ x ∈ takeL ks 0 k 2, x.key < 30 := fun x hx2 => by
  unfold takeL at hx2
  split at hx2
  · rcases List.mem_append.1 hx2 with hx2 | hx2
    · exact h x hx2
    · rw [List.mem_singleton] at hx2; rw [hx2]; exact k1
  · obtain ⟨j2, hj2⟩ := List.mem_iff_getElem?.1 hx2
    rw [List.getElem?_modify] at hj2
    cases hq : ks[j2]? with
    | none => rw [hq] at hj2; simp at hj2
    | some y =>
      rw [hq] at hj2
      have hy := h y (List.mem_of_getElem? hq)
      simp at hj2
      rw [← hj2]
      split
      · exact hy
      · exact hy
theorem tget_note {ts : List Tx} {id l n : Int} (hr : Rising (kvT ts)) (h : thas ts id = true) : thas (tnote ts id l n) id = true ∧ tget (tnote ts id l n) id = ⟨id, (tget ts id).state, l, n⟩ := by
  have h1 : thas (tnote ts id l n) id = true := by rw [thas_ids (tnote_rise hr), ids_tnote, ← thas_ids hr]; exact h
  obtain ⟨m1, m2⟩ := tget_mem h1
  rcases mem_tnote hr h m1 with e | ⟨_, e⟩
  · exact ⟨h1, e⟩
  · exact absurd m2 e
theorem q_start : QSt (1 + 8 + 20 : Int).toNat 0 (beginF (newF 8 20 2 1) 0) (fun _ => false) (fun _ => 0) := by
  have hn := new_ok (P := 8) (blocks := 20) (frames := 2) (sess := 1) 0 (by omega) (by omega) (by omega)
  have hb := begin_ok (n := 0) hn rfl (by omega) (by decide) rfl (by decide) (by decide)
  have hcur : ∀ p, 1 ≤ p → p ≤ 8 → cur (beginF (newF 8 20 2 1) 0).S p = (0, []) := fun p p1 p2 => by
    show cur (addRec (newF 8 20 2 1).S _) p = _
    rw [addRec_cur]
    exact cur_new (by omega) (by show p < (((1 + 8 + 20 : Int).toNat : Nat) : Int); omega)
  refine ⟨⟨_, hb⟩, KOk.nil _, Nat.le_refl _, fun x hx => (List.not_mem_nil hx).elim, rfl, rfl, rfl, by decide, by decide, by decide, by decide, rfl, by decide, fun k k0 k1 => ?_, fun p p1 p2 e he => ?_, ?_⟩
  · obtain ⟨q1, q2⟩ := placeOf_in k (show (1 : Int) ≤ 8 by omega)
    show val (cur (beginF (newF 8 20 2 1) 0).S (placeOf k 8)).2 k = _
    rw [hcur _ q1 q2]
    rfl
  · rw [hcur p p1 p2] at he
    exact (List.not_mem_nil he).elim
  · exact addRec_new (newF 8 20 2 1).S (recBegin 1)
theorem q_put {N i : Nat} {F : FS} {hs : Int → Bool} {vl : Int → Int} {k v : Int} (h : QSt N i F hs vl) (hi : i < 20) (k0 : 0 ≤ k) (k1 : k < 30) (hv : is64 v) :
    ∃ R, putR F 0 k v i = (R, (if hs k then vl k else 0), hs k, none) ∧ QSt N (i + 1) R (fun j => if j = k then true else hs j) (fun j => if j = k then v else vl j) ∧ recOf R.S.l ((i : Int) + 2) = some ⟨2, 1, placeOf k 8, (i : Int) + 1, 0, k, hs k, true, (if hs k then vl k else 0), v⟩ := by
  obtain ⟨ch, hok⟩ := h.ok
  obtain ⟨t1, t2, t3, t4, t5, t6, t7, t8, t9⟩ := takes_ok (n := 0) (key := k) hok h.ks rfl ⟨k0, by omega⟩ i
  obtain ⟨p1, p2⟩ := placeOf_in k hok.g.pg.pages
  obtain ⟨S', e1, e2, e3, e4⟩ := get_ok hok i p1 p2
  have hS : (takesF F 0 k 2 i).S = S' := by unfold takesF; rw [e1]
  obtain ⟨l1, l2, l3, l4, l5⟩ := e3.ll
  have hcur := t5 _ p1 p2
  have hP := h.P
  have hP1 : (takesF F 0 k 2 i).P = 8 := hP
  have hpv := hok.g.pg.curV p1 p2
  have hrise := PageV.rise hpv
  have hfree : (takesF F 0 k 2 i).free = F.free := rfl
  have hfr := h.free
  have hrec1 : ∀ m, recOf (takesF F 0 k 2 i).S.l m = recOf F.S.l m := fun m => by rw [hS]; exact recOf_done l2 l1 m
  rw [hP] at hcur p1 p2 t6 hrise hpv
  obtain ⟨es, hes⟩ : ∃ es, (cur F.S (placeOf k 8)).2 = es := ⟨_, rfl⟩
  have hval : val es k = if hs k then some (vl k) else none := by
    have := h.vals k k0 k1
    unfold vals at this
    rw [hP, hes] at this
    exact this
  rw [hes] at hrise hpv
  have hhas : has es k = hs k := by
    rw [has_val hrise, hval]
    cases hs k <;> rfl
  have hfrom : fromOf es k = if hs k then vl k else 0 := by
    rw [from_val hrise, hval]
    cases hs k <;> rfl
  have hold : is64 (fromOf es k) := by
    rw [from_val hrise]
    cases hx : val es k with
    | none => unfold is64; simp
    | some x =>
      have := (val_some hrise k x).1 hx
      exact hpv.2 _ this
  have hnf : hs k = true ∨ fullB (takesF F 0 k 2 i) k = false := by
    cases hq : hs k with
    | true => exact .inl rfl
    | false => exact .inr (not_full h i k0 k1 (by rw [hP, hes, hhas, hq]))
  obtain ⟨x, x1, x2, x3, x4⟩ := t8
  have hid : thas (takesF F 0 k 2 i).ts 1 = true := h.has_
  have hq := put_ok (F := takesF F 0 k 2 i) (id := 1) (key := k) (v := v) t2 hid (by rw [hP1]; exact t6) ⟨k0, by omega⟩ hv ⟨x, x1, x2, x3, by rw [x4]; exact h.of⟩ (by omega) (by rw [hP1, hcur, hes, hhas]; exact hnf)
  rw [hP1, hcur, hes, hhas, hfrom] at hq
  obtain ⟨q1, q2, q3, q4, q5⟩ := hq
  have hl := put_log (F := takesF F 0 k 2 i) (id := 1) (key := k) (v := v) t2 hid (by rw [hP1]; exact t6) ⟨k0, by omega⟩ hv (by rw [hP1, hcur, hes]; exact hold) (by omega) (by rw [hP1, hcur, hes, hhas, hfrom]; exact q2) (by rw [hP1, hcur, hes, hhas, hfrom]; exact q3)
  rw [hP1, hcur, hes, hhas, hfrom] at hl
  obtain ⟨w1, w2⟩ := hl
  have htx := h.tx
  have hlast := h.last
  obtain ⟨n1, n2⟩ := tget_note (l := (takesF F 0 k 2 i).S.l.last + 1) (n := (takesF F 0 k 2 i).S.l.last + 1) hok.t.rise h.has_
  have hlr := addRec_last (takesF F 0 k 2 i).S (recSet (tget (takesF F 0 k 2 i).ts 1) 8 k (hs k) (if hs k then vl k else 0) true v)
  refine ⟨setF (takesF F 0 k 2 i) 1 k (hs k) (if hs k then vl k else 0) true v, ?_, ⟨⟨_, q4⟩, t3, by have := h.kl; show (takesF F 0 k 2 i).ks.length ≤ _; omega, take_lt h.kr k1, h.most, h.sess, hP, h.of, n1, ?_, ?_, ?_, ?_, fun j j0 j1 => ?_, fun p a b e he => ?_, ?_⟩, ?_⟩
  · unfold putR
    rw [hP, hes, hhas, hfrom, h.of, if_neg (fun hc => by
      rcases hnf with h1 | h1
      · rw [h1] at hc; exact absurd hc.1 (by decide)
      · rw [h1] at hc; exact absurd hc.2 (by decide)), if_neg (by omega)]
  · show (tget (tnote F.ts 1 _ _) 1).last = _
    rw [n2, w1, hlr]
  · rw [w1, hlr, t7, hlast]; push_cast; omega
  · rw [w1]
    show (takesF F 0 k 2 i).S.l.base = 0
    rw [hS, l2]; exact h.base
  · show (takesF F 0 k 2 i).free - 2 = _
    rw [hfree, hfr]; push_cast; omega
  · rw [q5 j, t4 j]
    by_cases e : j = k
    · simp [e]
    · simp only [e, if_false]; exact h.vals j j0 j1
  · rw [w2 p] at he
    by_cases e2 : p = placeOf k 8
    · rw [if_pos e2] at he
      rcases (mem_put hrise e).1 he with rfl | ⟨he, _⟩
      · exact ⟨k0, k1, e2.symm⟩
      · rw [← hes] at he
        rw [← e2] at he
        exact h.keys p a b e he
    · rw [if_neg e2, t5 p a (by rw [hP]; exact b)] at he
      exact h.keys p a b e he
  · rw [w1]
    exact addRec_rec (by rw [hrec1]; exact h.first)
  · rw [w1, show (i : Int) + 2 = (takesF F 0 k 2 i).S.l.last + 1 by rw [t7, hlast]; omega, addRec_new]
    have hx1 : (tget (takesF F 0 k 2 i).ts 1).id = 1 := (tget_mem h.has_).2
    have hx2 : (tget (takesF F 0 k 2 i).ts 1).last = (i : Int) + 1 := by show (tget F.ts 1).last = _; rw [htx, hlast]; omega
    unfold recSet
    rw [hx1, hx2]
theorem tget_state {ts : List Tx} {id s : Int} (hr : Rising (kvT ts)) (h : thas ts id = true) : tget (tstate ts id s) id = ⟨id, s, (tget ts id).last, (tget ts id).next⟩ := by
  have h1 : thas (tstate ts id s) id = true := by rw [thas_ids (tstate_rise hr), ids_tstate, ← thas_ids hr]; exact h
  obtain ⟨m1, m2⟩ := tget_mem h1
  rcases mem_tstate hr h m1 with e | ⟨_, e⟩
  · exact e
  · exact absurd m2 e
/-- What a commit leaves. -/
structure QEnd (i : Nat) (C : FS) : Prop where
  last : C.S.l.last = (i : Int) + 3
  done : C.S.l.doneN = (i : Int) + 2
  rec4 : ∃ r, recOf C.S.l ((i : Int) + 2) = some r ∧ r.kind = 4 ∧ r.prev = (i : Int) + 1
  rec6 : ∃ r, recOf C.S.l ((i : Int) + 3) = some r ∧ r.kind = 6 ∧ r.prev = (i : Int) + 2
  rec1 : recOf C.S.l 1 = some (recBegin 1)
  of : C.of 0 = 0
  kept : C.kept = 0
  free : C.free = C.S.l.room
theorem q_commit {N i : Nat} {F : FS} {hs : Int → Bool} {vl : Int → Int} (h : QSt N i F hs vl) : ∃ ch, FOk N i ch (fun _ => 2) F ∧ CommitOk N i ch (fun _ => 2) F 0 1 ∧ QEnd i (commitF F 0 1 ((ch 1).length : Int)) := by
  obtain ⟨ch, hok⟩ := h.ok
  have hc := commit_ok (n := 0) (id := 1) hok h.has_ h.of rfl (fun _ => by omega)
  have hlast := h.last
  have hbase := h.base
  have hl1 := addRec_last F.S (recMark (tget F.ts 1) 4)
  have hS2 : (flushF (markF F 1 4 1)).S.l = { (addRec F.S (recMark (tget F.ts 1) 4)).l with done := (addRec F.S (recMark (tget F.ts 1) 4)).l.l.length } := hc.done
  have hl2 : (flushF (markF F 1 4 1)).S.l.last = F.S.l.last + 1 := by rw [hS2, ← hl1]; rfl
  have hrec2 : ∀ m, recOf (flushF (markF F 1 4 1)).S.l m = recOf (addRec F.S (recMark (tget F.ts 1) 4)).l m := fun m => by rw [hS2]; exact recOf_done rfl rfl m
  have hl3 := addRec_last (flushF (markF F 1 4 1)).S (recMark (tget (flushF (markF F 1 4 1)).ts 1) 6)
  have hx2 : (tget (flushF (markF F 1 4 1)).ts 1).last = F.S.l.last + 1 := by
    show (tget (tstate (tnote F.ts 1 (F.S.l.last + 1) (tget F.ts 1).next) 1 1) 1).last = _
    rw [tget_state hc.rise1 hc.has1, (tget_note hok.t.rise h.has_).2]
  have hts : (commitF F 0 1 ((ch 1).length : Int)).ts = [] := by
    rw [List.eq_nil_iff_forall_not_mem]
    intro x hx
    have h1 := hc.ok3.t.ids x hx
    have h2 : (commitF F 0 1 ((ch 1).length : Int)).most = 1 := h.most
    have h3 := ((mem_tdrop hc.ok2.t.rise hc.has2).1 hx).2
    omega
  have hkept : (commitF F 0 1 ((ch 1).length : Int)).kept = 0 := by
    rw [hc.ok3.c.kept, hts]
    rfl
  refine ⟨ch, hok, hc, ⟨?_, ?_, ⟨recMark (tget F.ts 1) 4, ?_, rfl, ?_⟩, ⟨recMark (tget (flushF (markF F 1 4 1)).ts 1) 6, ?_, rfl, ?_⟩, ?_, ?_, hkept, ?_⟩⟩
  · show (addRec (flushF (markF F 1 4 1)).S _).l.last = _
    rw [hl3, hl2, hlast]; omega
  · have h1 : (addRec F.S (recMark (tget F.ts 1) 4)).l.last = (addRec F.S (recMark (tget F.ts 1) 4)).l.base + ((addRec F.S (recMark (tget F.ts 1) 4)).l.l.length : Int) := rfl
    have h2 : (addRec F.S (recMark (tget F.ts 1) 4)).l.base = 0 := hbase
    show (addRec (flushF (markF F 1 4 1)).S _).l.base + ((addRec (flushF (markF F 1 4 1)).S _).l.done : Int) = _
    have h3 : (addRec (flushF (markF F 1 4 1)).S (recMark (tget (flushF (markF F 1 4 1)).ts 1) 6)).l.base = 0 := by
      show (flushF (markF F 1 4 1)).S.l.base = 0
      rw [hS2]; exact hbase
    have h4 : (addRec (flushF (markF F 1 4 1)).S (recMark (tget (flushF (markF F 1 4 1)).ts 1) 6)).l.done = (addRec F.S (recMark (tget F.ts 1) 4)).l.l.length := by
      show (flushF (markF F 1 4 1)).S.l.done = _
      rw [hS2]
    have h5 : (commitF F 0 1 ((ch 1).length : Int)).S.l = (addRec (flushF (markF F 1 4 1)).S (recMark (tget (flushF (markF F 1 4 1)).ts 1) 6)).l := rfl
    omega
  · have h1 : recOf (addRec F.S (recMark (tget F.ts 1) 4)).l ((i : Int) + 2) = some (recMark (tget F.ts 1) 4) := by
      have := addRec_new F.S (recMark (tget F.ts 1) 4)
      rw [show (i : Int) + 2 = F.S.l.last + 1 by omega]; exact this
    exact addRec_rec (by rw [hrec2]; exact h1)
  · show (tget F.ts 1).last = _
    rw [h.tx, hlast]; omega
  · have := addRec_new (flushF (markF F 1 4 1)).S (recMark (tget (flushF (markF F 1 4 1)).ts 1) 6)
    rw [hl2] at this
    rw [show (i : Int) + 3 = F.S.l.last + 1 + 1 by omega]; exact this
  · show (tget (flushF (markF F 1 4 1)).ts 1).last = _
    rw [hx2]; omega
  · exact addRec_rec (by rw [hrec2]; exact addRec_rec h.first)
  · show upd F.of 0 0 0 = 0
    unfold upd
    rfl
  · have := hc.ok3.g.room
    omega
end Go.Proofs.YtaplpeoikebedaaGreatDoor.RecsD
