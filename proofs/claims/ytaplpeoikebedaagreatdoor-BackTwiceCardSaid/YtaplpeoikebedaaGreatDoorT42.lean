/- Joined texts: FwdK, WalkBackTwice. No condition but what each says. -/
import Derived.Test.YtaplpeoikebedaaGreatDoorT35
import Derived.Test.YtaplpeoikebedaaGreatDoorT38
import Derived.Test.YtaplpeoikebedaaGreatDoorT27
import Derived.Test.YtaplpeoikebedaaGreatDoorT41
import Derived.Test.YtaplpeoikebedaaGreatDoorT19
set_option linter.unusedVariables false
set_option linter.unusedSimpArgs false
namespace Go.Proofs.YtaplpeoikebedaaGreatDoor.FwdK
open Go.RowKit Go.Maps Go.Proofs.YtaplpeoikebedaaGreatDoorW.PrintWords Go.Proofs.YtaplpeoikebedaaGreatDoorW.PrintLast Go.Proofs.YtaplpeoikebedaaGreatDoorW.PrintMore
open See Mem Page Disk DiskN DiskW RecD Rec Dirty Wal WalF Pool2 SysD SysM FlushG StoreD StoreF StoreH StoreK ChainT TransT LockT LockU SpaceT WaitT FwdM FwdP FwdC FwdN FwdB EndT FwdL
attribute [local go_sem] max2_imax min2_imin max_two min_two
set_option maxHeartbeats 8000000 in
set_option maxRecDepth 100000 in
theorem commit_calls (a : Nat → Addr) (M : Nat → Prop) (sp lp pp dp qp mp : Nat) (blocks frames : Int) (F : FS) (n id : Int) (N m : Nat) (ch : Int → List Int) (kp : Int → Int) (w : World) (h : FwM M w sp lp pp dp qp mp blocks frames F) (hok : FOk N m ch kp F) (hcm : CommitOk N m ch kp F n id) (hs : SentsAll w a) (hO : OutAll M a) (h0 : 0 ≤ n) (h1 : n < F.sess) (h2 : F.sess ≤ 1000) (hof : F.of n = id) (hid : thas F.ts id = true) (hm : m ≤ 30000) (hall : ∀ x ∈ F.ks, x.s = n) :
    Calls Tryz.prog 25 #[.pointer (some ⟨sp, 0, none⟩), .int .i64 n] w fun e w' => e = .returned .nilIface ∧ FwPost M sp lp pp dp qp mp blocks frames (commitF F n id ((ch id).length : Int)) w w' := by
  have HC := Aside0.mk (called_calls M sp lp pp dp qp mp blocks frames F n w h h0 h1 h2 (by rw [hof]; exact hid) hok.t.rise)
  have HF := Aside0.mk h
  have HS := Aside0.mk hs
  have HO := Aside0.mk hO
  have HOK := Aside0.mk hok
  have HCM := Aside0.mk hcm
  have HM := Aside0.mk hm
  have HALL := Aside0.mk hall
  have HOF := Aside0.mk (And.intro hof hid)
  have HN := Aside0.mk (And.intro h0 (And.intro h1 h2))
  obtain ⟨x, hxx⟩ : ∃ x, tget F.ts id = x := ⟨_, rfl⟩
  have htid := (tget_mem hid).2
  have HXX := Aside0.mk hxx
  rw [hof, hxx] at HC
  rw [hxx] at htid
  obtain ⟨xi, xs, xl, xn⟩ := x
  simp only at htid
  subst htid
  simp only [txV] at HC
  clear h hok hcm hs hO h0 h1 h2 hof hid hm hall hxx
  go_enter Tryz.func25, Tryz.ntmps25
  go_wp2_with fail
  refine HC.out.mono ?_
  rintro e w1 ⟨rfl, hb⟩
  obtain ⟨bx, hbx⟩ : ∃ bx, w1.heap.size = bx := ⟨_, rfl⟩
  obtain ⟨V0, hV0⟩ : ∃ V, w1.alloc (.cells #[.int .i64 xi, .int .i64 xs, .int .i64 xl, .int .i64 xn] 102) = V := ⟨_, rfl⟩
  have HXB := Aside0.mk (show V0.heap[bx]? = some (.cells #[.int .i64 xi, .int .i64 xs, .int .i64 xl, .int .i64 xn] 102 (0, 0)) by rw [← hV0, ← hbx]; exact heap_alloc_new _ _)
  have HB0 := Aside0.mk (show Below w.heap.size w V0 by rw [← hV0]; exact below_alloc hb _)
  have HL0 := Aside0.mk (LB.start HF.out HB0.out)
  have hbw : w.heap.size ≤ bx := by have := hb.size; omega
  have HWE := Aside0.mk (And.intro hV0 hbx)
  clear hb hbx hV0
  go_upto_region 2 with fail
  rw [HWE.out.1, HWE.out.2]
  have j4 := HL0.out.f.cells.2.2.1
  obtain ⟨x0, x1, x2, x3, _, _, _, _⟩ := tx_cells HXB.out
  have HALLC := Aside0.mk (show ∀ (V : World), Below V0.heap.size V0 V → Calls Tryz.prog 73 #[.pointer (some ⟨lp, 0, none⟩), .int .i64 xn] V fun e w' => ∃ v', e = .returned (.tuple #[v', .nilIface]) ∧ IS w' V.heap.size v' (ch xi) ∧ Below V.heap.size V w' from fun V hbl => by
    have hl := HL0.out.below hbl
    obtain ⟨lv, hlg⟩ := hl.f.sys.log
    have hc := HCM.out.chain
    rw [HXX.out] at hc
    exact all_calls _ lp dp lv F.S.l xn (ch xi) V hlg hc HCM.out.few)
  go_upto_region 4 with fail
  go_cut [7, 6] (fun v7 v6 wx => v6 = .nilIface ∧ (∃ A c, v7 = .slice A (ch xi).length c) ∧ Aside0 (Below V0.heap.size V0 wx))
  case first =>
    go_region_law (first
      | (go_simp; go_at_call 73; refine (HALLC.out _ (by repeat (first | exact Below.refl _ _ | apply below_drew1))).mono ?_; rintro e w4 ⟨v4, rfl, hi4, hb4⟩; obtain ⟨A4, c4, rfl, _⟩ := ow_slice hi4; have HB4 := Aside0.mk hb4; clear hi4 hb4))
    all_goals
      go_wp2_with fail
      go_meet
      exact ⟨rfl, ⟨_, _, rfl⟩, ⟨below_step (by repeat (first | exact Below.refl _ _ | apply below_drew1)) HB4.out⟩⟩
  case rest =>
    obtain ⟨rfl, ⟨A4, c4, rfl⟩, HB4⟩ := hcut
    generalize wc = V1 at HB4 ⊢
    have HL1 := Aside0.mk (HL0.out.below HB4.out)
    have HSS := Aside0.mk (HL1.out.sents HS.out HO.out)
    obtain ⟨k, hk⟩ : ∃ k, (ch xi).length = k := ⟨_, rfl⟩
    have HK := Aside0.mk hk
    rw [hk]
    clear x0 x1 x2 x3 j4 hk
    obtain ⟨x0, x1, x2, x3, _, _, _, _⟩ := tx_cells (HL1.out.at HXB.out hbw)
    have HFA := Aside0.mk (by
      have h4 := HCM.out.rec4
      rw [HXX.out] at h4
      exact fappend_calls a _ sp lp pp dp qp mp blocks frames F (recMark ⟨xi, xs, xl, xn⟩ 4) V1 HL1.out.f HSS.out.1 HSS.out.2 ⟨HCM.out.kept, (room_top HOK.out.g).2⟩ h4 HCM.out.room)
    simp only [recV, recMark] at HFA
    go_wp2_with fail
    refine HFA.out.mono ?_
    rintro e V2 ⟨rfl, hp2⟩
    have HL2 := Aside0.mk (HL1.out.step hp2)
    clear hp2 x0 x1 x2 x3 HFA
    obtain ⟨cs, tv, htx, hput⟩ := FwM.txs HL2.out.f HOK.out.t.rise
    have HTX := Aside0.mk htx
    have HPT := Aside0.mk hput
    clear htx hput
    have HNT := Aside0.mk (show ∀ (V : World), Below V2.heap.size V2 V → Calls Tryz.prog 66 #[.pointer (some ⟨sp, 8, none⟩), .int .i64 xi, .int .i64 (F.S.l.last + 1), .int .i64 xn] V (fun e w' => e = .returned (.bool true) ∧ ∃ R, LB M sp lp pp dp qp mp blocks frames { addK F (recMark ⟨xi, xs, xl, xn⟩ 4) with ts := tnote F.ts xi (F.S.l.last + 1) xn } w V0 R w') from fun V hbl => by
      have := tnote_calls _ sp 8 118 cs tv F.ts F.most xi (F.S.l.last + 1) xn V (HTX.out.below hbl) HOF.out.2
      exact this.mono fun e w' hh => by
        obtain ⟨rfl, hpost⟩ := hh
        exact ⟨rfl, _, HL2.out.step (HPT.out _ _ _ (Int.le_refl _) (hpost.back hbl))⟩)
    obtain ⟨x0, x1, x2, x3, _, _, _, _⟩ := tx_cells (HL2.out.at HXB.out hbw)
    go_upto_region 10 with fail
    go_cut [] (fun wx => ∃ R, Aside0 (LB M sp lp pp dp qp mp blocks frames { addK F (recMark ⟨xi, xs, xl, xn⟩ 4) with ts := tnote F.ts xi (F.S.l.last + 1) xn } w V0 R wx))
    case first =>
      go_region_law (first
        | (go_simp; go_at_call 66; refine (HNT.out _ (by repeat (first | exact Below.refl _ _ | apply below_drew1))).mono ?_; rintro e w6 ⟨rfl, R6, hl6⟩; have HL6 := Aside0.mk hl6; clear hl6))
      all_goals
        go_wp2_with fail
        go_meet
        exact ⟨R6, HL6⟩
    case rest =>
      obtain ⟨R3, HL3⟩ := hcut
      generalize wc = V3 at HL3 ⊢
      clear x0 x1 x2 x3 HTX HPT HNT
      have HRS := Aside0.mk (show Rising (kvT (tnote F.ts xi (F.S.l.last + 1) xn)) by have := HCM.out.rise1; rw [HXX.out] at this; exact this)
      have HHS := Aside0.mk (show thas (tnote F.ts xi (F.S.l.last + 1) xn) xi = true by have := HCM.out.has1; rw [HXX.out] at this; exact this)
      obtain ⟨cs2, tv2, htx, hput⟩ := FwM.txs HL3.out.f HRS.out
      have HTX := Aside0.mk htx
      have HPT := Aside0.mk hput
      clear htx hput
      have HST := Aside0.mk (show ∀ (V : World), Below V3.heap.size V3 V → Calls Tryz.prog 75 #[.pointer (some ⟨sp, 8, none⟩), .int .i64 xi, .int .i64 1] V (fun e w' => e = .returned (.bool true) ∧ ∃ R, LB M sp lp pp dp qp mp blocks frames (markF F xi 4 1) w V0 R w') from fun V hbl => by
        have := tstate_calls _ sp 8 118 cs2 tv2 (tnote F.ts xi (F.S.l.last + 1) xn) F.most xi 1 V (HTX.out.below hbl) HHS.out
        exact this.mono fun e w' hh => by
          obtain ⟨rfl, hpost⟩ := hh
          have hl := HL3.out.step (HPT.out _ _ _ (Int.le_refl _) (hpost.back hbl))
          have hmk : markF F xi 4 1 = { addK F (recMark ⟨xi, xs, xl, xn⟩ 4) with ts := tstate (tnote F.ts xi (F.S.l.last + 1) xn) xi 1 } := by
            unfold markF
            rw [HXX.out]
            rfl
          rw [hmk]
          exact ⟨rfl, _, hl⟩)
      obtain ⟨x0, x1, x2, x3, _, _, _, _⟩ := tx_cells (HL3.out.at HXB.out hbw)
      go_upto_region 11 with fail
      go_cut [] (fun wx => ∃ R, Aside0 (LB M sp lp pp dp qp mp blocks frames (markF F xi 4 1) w V0 R wx))
      case first =>
        go_region_law (first
          | (go_simp; go_at_call 75; refine (HST.out _ (by repeat (first | exact Below.refl _ _ | apply below_drew1))).mono ?_; rintro e w6 ⟨rfl, R6, hl6⟩; have HL6 := Aside0.mk hl6; clear hl6))
        all_goals
          go_wp2_with fail
          go_meet
          exact ⟨R6, HL6⟩
      case rest =>
        obtain ⟨R4, HL4⟩ := hcut
        generalize wc = V4 at HL4 ⊢
        clear x0 x1 x2 x3 HTX HPT HST
        have j4 := HL4.out.f.cells.2.2.1
        obtain ⟨lv, hlg⟩ := HL4.out.f.sys.log
        have HLG := Aside0.mk hlg
        have HS4 := Aside0.mk (HL4.out.sents HS.out HO.out)
        clear hlg
        go_wp2_with fail
        refine (flush_log a _ lp dp lv (markF F xi 4 1).S.l (markF F xi 4 1).S.d _ (HS4.out.1.k _ (by decide)) (HS4.out.2.k _ (by decide)) HL4.out.f.sys.dsk HLG.out HCM.out.ok1.g.fuse (HCM.out.ok1.g.loose.mono (by have := HM.out; omega))).mono ?_
        rintro e V5 ⟨rfl, hd5, hl5, hf5⟩
        rw [HCM.out.fine, show errv a none = .nilIface from rfl]
        have HL5 := Aside0.mk (show LB M sp lp pp dp qp mp blocks frames (flushF (markF F xi 4 1)) w V0 _ V5 from HL4.out.step (FwM.sy HL4.out.f (SysM.logd HL4.out.f.sys hd5 hl5 hf5 HCM.out.ok2.g.fuse) (frm_sys2 hf5)))
        have HS5 := Aside0.mk (HL5.out.sents HS.out HO.out)
        clear hd5 hl5 hf5 j4 HLG
        go_wp2_with fail
        refine (leave_calls a _ sp lp pp dp qp mp blocks frames (flushF (markF F xi 4 1)) n xi _ HL5.out.f HS5.out.1 HS5.out.2 HN.out.1 (by have := HN.out; omega) HOF.out.1 HCM.out.has2 HCM.out.ok2.t.rise (tget_mem HCM.out.has2).2 ⟨by have := HCM.out.kept2; omega, (room_top HCM.out.ok2.g).2⟩ HCM.out.rec6 HCM.out.room2 HALL.out).mono ?_
        rintro e V6 ⟨rfl, hp6⟩
        have HL6 := Aside0.mk (HL5.out.step hp6)
        clear hp6
        have j10 := HL6.out.f.cells.2.2.2.2.2.2.1
        go_wp2_with fail
        refine (let_space _ qp (flushF (markF F xi 4 1)).free ((flushF (markF F xi 4 1)).kept - 1) (k : Int) _ HL6.out.f.room HL6.out.f.low.2.1 (by omega) (by have := HCM.out.kept2; have := HK.out; omega) (by have := (room_top HCM.out.ok2.g).2; omega) HCM.out.ok2.g.room.1 (room_top HCM.out.ok2.g).1).mono ?_
        rintro e V7 ⟨rfl, hs7, hf7⟩
        have HL7 := Aside0.mk (HL6.out.step (FwM.spc HL6.out.f hs7 hf7))
        clear hs7 hf7 j10
        have HFE := Aside0.mk (show freeL (flushF (markF F xi 4 1)).ks n = [] from by
          unfold freeL
          rw [List.filter_eq_nil_iff]
          intro y hy
          have := HALL.out y hy
          simp [this])
        go_wp2_with fail
        go_ret
        refine ⟨rfl, ?_⟩
        have hp := HL7.out.post
        unfold commitF endF
        rw [HFE.out, HK.out]
        exact hp
end Go.Proofs.YtaplpeoikebedaaGreatDoor.FwdK
namespace Go.Proofs.YtaplpeoikebedaaGreatDoor.WalkBackTwice
open Go.RowKit Go.Maps Go.Proofs.YtaplpeoikebedaaGreatDoorW.PrintWords Go.Proofs.YtaplpeoikebedaaGreatDoorW.PrintLast Go.Proofs.YtaplpeoikebedaaGreatDoorW.PrintMore
open See Mem Page PageL Disk DiskN RecD Dirty Pool2 Pool3 Wal Fresh Num SysD SysM StoreD StoreF StoreI StoreJ StoreK StoreW RoomD SpaceT FwdM FwdP FwdB FwdU FwdK First17 BackL BackM BackW BackV BackU BackB BackE BackN First18 TwiceD
attribute [local go_sem] max2_imax min2_imin max_two min_two
theorem is64_wrap (x : Int) : is64 (IntKind.i64.wrap x) := by
  unfold is64
  rw [IntKind.wrap_i64]
  omega
theorem last_bk {M : Nat → Prop} {bp bm sp lp pp dp qp mp : Nat} {blocks frames : Int} {B : BSt} {w : World} (h : BkM M w bp bm sp lp pp dp qp mp blocks frames B) :
    Calls Tryz.prog 24 #[.pointer (some ⟨lp, 0, none⟩)] w fun e w' => e = .returned (.int .i64 B.F.S.l.last) ∧ Below w.heap.size w w' := by
  obtain ⟨R, sl, h⟩ := h
  obtain ⟨lv, hl⟩ := h.f.sys.log
  exact last_log _ lp dp lv _ w hl
structure TwRel (key v : Int) (i : Nat) (B : BSt) : Prop where
  st : ∃ m ch, TSt (1 + 4 + 60 : Int).toNat m ch key v (355 - 2 * i) B.F ∧ m ≤ 1 + 3 * i
  sv : B.sv 0 = ⟨1, [2]⟩
  nu : B.nu ≤ 1 + 3 * i
set_option maxHeartbeats 8000000 in
set_option maxRecDepth 100000 in
theorem twice_calls (n0 key0 v : Int) (hb1 : -9223372036854775808 ≤ v) (hb2 : v ≤ 9223372036854775807) (a : Nat → Addr) (w : World) (hs : SentsK (List.range 18) w a) :
    Calls Tryz.prog 8 #[.int .i64 n0, .int .i64 key0, .int .i64 v] w fun e w' => e = .returned (.bool true) ∧ Below w.heap.size w w' := by
  have HS := Aside0.mk hs.all
  have HV := Aside0.mk (show is64 v from ⟨by omega, by omega⟩)
  obtain ⟨n8, hn8⟩ : ∃ x, n0 % 8 = x := ⟨_, rfl⟩
  obtain ⟨key, hkey⟩ : ∃ x, key0 % 100 = x := ⟨_, rfl⟩
  have hn : 0 ≤ n8 ∧ n8 < 8 := by omega
  have HKY := Aside0.mk (show 0 ≤ key ∧ key < 100 by omega)
  obtain ⟨n, hnn⟩ : ∃ x, n8 + 1 = x := ⟨_, rfl⟩
  have hw0 : IntKind.i64.wrap (n8 + 1) = n := by rw [IntKind.wrap_i64]; omega
  have HN := Aside0.mk (show 1 ≤ n ∧ n ≤ 8 by omega)
  obtain ⟨F0, ch0, hput0, ht0⟩ := tw_start HKY.out HV.out
  have HP0 := Aside0.mk hput0
  have HT0 := Aside0.mk ht0
  clear hs hb1 hb2 hn hnn hput0 ht0
  go_enter Tryz.func8, Tryz.ntmps8
  go_wp2_with fail
  refine (first18_calls a _ HS.out).mono ?_
  rintro e w1 ⟨rfl, hb⟩
  have HB1 := Aside0.mk hb
  have HS1 := Aside0.mk (HS.out.below hb)
  clear hb
  go_wp2_with fail
  refine (num_calls n0 8 (by decide) (by decide) _).mono ?_
  rintro e w' ⟨rfl, rfl⟩
  rw [hn8]
  go_wp2_with fail
  refine (num_calls key0 100 (by decide) (by decide) _).mono ?_
  rintro e w' ⟨rfl, rfl⟩
  rw [hkey]
  clear hn8 hkey
  go_wp2_with fail
  refine (made18_calls 4 60 2 1 (by omega) (by omega) (by omega) w1).mono ?_
  rintro e w2 ⟨bp, bm, sp, lp, pp, dp, qp, mp, q, rfl, hbk, hb⟩
  have HO := Aside0.mk (out_all HS1.out)
  have HBB2 := Aside0.mk hb
  obtain ⟨R2, sl2, h2⟩ := hbk
  have H2 := Aside0.mk h2
  obtain ⟨c0, _⟩ := h2.cells
  have hbl := heap_lt h2.box
  have HOK := Aside0.mk (new_ok (P := 4) (blocks := 60) (frames := 2) (sess := 1) 0 (by omega) (by omega) (by omega))
  clear h2 hb
  go_wp2_with fail
  refine (begin_calls a R2 sp lp pp dp qp mp 60 2 (newF 4 60 2 1) 0 _ 0 _ _ _ H2.out.f HOK.out (HS1.out.below HBB2.out) (OutAll.sub (M' := R2) HO.out fun k hk => (H2.out.r k hk).1) (by decide) (by decide) (by decide) rfl (by decide)).mono ?_
  rintro e w3 hpost
  rcases hpost with ⟨_, rfl, hpost⟩ | ⟨hlt, _, _⟩
  case inr => exact absurd hlt (by decide)
  obtain ⟨hk3, hb3⟩ := bk_up (H2.out.fw hpost) HBB2.out.size
  have HBK3 := Aside0.mk (show BkM (fun k => w1.heap.size ≤ k) w3 bp bm sp lp pp dp qp mp 60 2 ⟨beginF (newF 4 60 2 1) 0, fun _ => ⟨0, []⟩, 0⟩ from hk3)
  have HB3 := Aside0.mk (HBB2.out.trans hb3)
  clear hpost hk3 hb3 c0 hbl
  go_wp2_with fail
  refine (bput_calls a _ bp bm sp lp pp dp qp mp 60 2 ⟨beginF (newF 4 60 2 1) 0, fun _ => ⟨0, []⟩, 0⟩ 0 key v 0 _ 0 _ _ (fun _ => 0) F0 0 false w3 HBK3.out HP0.out (beg4 rfl) (KOk.nil _) rfl (HS1.out.below HB3.out) HO.out (by decide) (by decide) (by decide) (by decide) (by have := HKY.out; omega) (by have := HKY.out; omega) (by decide) (by decide) (by decide) (by decide) HV.out).mono ?_
  rintro e w4 ⟨rfl, hpost⟩
  obtain ⟨hk4, hb4⟩ := bk_up hpost HB3.out.size
  have HBK4 := Aside0.mk (show BkM (fun k => w1.heap.size ≤ k) w4 bp bm sp lp pp dp qp mp 60 2 ⟨F0, fun _ => ⟨0, []⟩, 0⟩ from hk4)
  have HB4 := Aside0.mk (HB3.out.trans hb4)
  clear hpost hk4 hb4
  go_wp2_with fail
  obtain ⟨t1, t2⟩ := tw_tx HT0.out
  have HSV := Aside0.mk (by
    have hof : F0.of 0 = 1 := HT0.out.same.2.2.2.1
    have := save_calls _ bp bm sp lp pp dp qp mp 60 2 ⟨F0, fun _ => ⟨0, []⟩, 0⟩ 0 w4 HBK4.out (by decide) (by show 0 < F0.sess; rw [HT0.out.same.2.1]; decide) (by show F0.sess ≤ 1000; rw [HT0.out.same.2.1]; decide) (by show thas F0.ts (F0.of 0) = true; rw [hof]; exact HT0.out.has_) HT0.out.ok.t.rise (by show (svOf ⟨F0, fun _ => ⟨0, []⟩, 0⟩ 0 (tget F0.ts (F0.of 0)).id).length < 20; rw [hof, t1, show svOf ⟨F0, fun _ => ⟨0, []⟩, 0⟩ 0 1 = [] from rfl]; decide) (by show (0 : Int) < 1000000; decide)
    rw [show (⟨F0, fun _ => ⟨0, []⟩, 0⟩ : BSt).F = F0 from rfl, hof, t1, t2, show svOf ⟨F0, fun _ => ⟨0, []⟩, 0⟩ 0 1 = [] from rfl] at this
    exact this)
  clear t1 t2
  refine HSV.out.mono ?_
  rintro e w5 ⟨rfl, hpost⟩
  obtain ⟨hk5, hb5⟩ := bk_up hpost HB4.out.size
  have HBK5 := Aside0.mk hk5
  have HB5 := Aside0.mk (HB4.out.trans hb5)
  clear hpost hk5 hb5 HSV
  go_wp2_with fail
  have HR0 := Aside0.mk (show TwRel key v 0 ⟨F0, updS (fun _ => ⟨0, []⟩) 0 ⟨1, [] ++ [2]⟩, 0 + 1⟩ from ⟨⟨1, ch0, HT0.out, by omega⟩, rfl, by show (0 : Int) + 1 ≤ _; omega⟩)
  go_loopg [17] (n.toNat + 1) (fun kq v17 w' => ∃ (i : Int) (B : BSt), v17 = .int .i64 i ∧ Aside0 (0 ≤ i ∧ i ≤ n ∧ (kq : Int) = n + 1 - i) ∧ Aside0 (TwRel key v i.toNat B) ∧ Aside0 (BkM (fun k => w1.heap.size ≤ k) w' bp bm sp lp pp dp qp mp 60 2 B) ∧ Aside0 (Below w1.heap.size w1 w'))
  case atStart => exact ⟨0, _, rfl, ⟨by omega, by have := HN.out; omega, by have := HN.out; omega⟩, HR0, HBK5, HB5⟩
  case round =>
    clear HBK5 HB5 HR0
    obtain ⟨i, B, rfl, HI, HR, HBK, HB⟩ := hrel
    have hi0 : 0 ≤ i := HI.out.1
    obtain ⟨m, ch, ht, hm⟩ := HR.out.st
    have HT := Aside0.mk ht
    have HM := Aside0.mk hm
    obtain ⟨t1, t2⟩ := tw_tx ht
    obtain ⟨s1, s2, s3, s4, s5, s6⟩ := ht.same
    have HSS := Aside0.mk (And.intro s2 (And.intro s4 s5))
    by_cases hlt : i < n
    · have HLT := Aside0.mk (show i < 8 by have := HN.out; omega)
      obtain ⟨u1, hu1⟩ : ∃ u, IntKind.i64.wrap (v + i) = u := ⟨_, rfl⟩
      obtain ⟨u2, hu2⟩ : ∃ u, IntKind.i64.wrap (u1 + 1) = u := ⟨_, rfl⟩
      have HU2 := Aside0.mk (show is64 u2 by rw [← hu2]; exact is64_wrap _)
      have hwi : IntKind.i64.wrap (i + 1) = i + 1 := by rw [IntKind.wrap_i64]; have := HLT.out; omega
      have HSV := Aside0.mk (by
        have hsv : svOf B 0 1 = [2] := by unfold svOf; rw [HR.out.sv]; rfl
        have := save_calls _ bp bm sp lp pp dp qp mp 60 2 B 0 wr HBK.out (by decide) (by rw [s2]; decide) (by rw [s2]; decide) (by rw [s4]; exact ht.has_) ht.ok.t.rise (by rw [s4, t1, hsv]; decide) (by have := HR.out.nu; have := HLT.out; omega)
        rw [s4, t1, t2, hsv] at this
        exact this)
      clear ht hm t1 t2 s1 s2 s3 s4 s5 s6
      go_wp2_with fail
      refine HSV.out.mono ?_
      rintro e w6 ⟨rfl, hpost⟩
      obtain ⟨hk6, hb6⟩ := bk_up hpost HB.out.size
      have HBK6 := Aside0.mk hk6
      have HB6 := Aside0.mk (HB.out.trans hb6)
      clear hpost hk6 hb6 HSV
      obtain ⟨F1, hput, hc, hks⟩ := tw_put HT.out HKY.out HU2.out (by have := HLT.out; omega)
      have HPU := Aside0.mk (bput_calls a _ bp bm sp lp pp dp qp mp 60 2 _ 0 key u2 0 _ m _ _ (fun _ => 0) F1 v true w6 HBK6.out hput HT.out.ok HT.out.kok rfl (HS1.out.below HB6.out) HO.out (by decide) (by show 0 < B.F.sess; rw [HSS.out.1]; decide) (by show B.F.sess ≤ 1000; rw [HSS.out.1]; decide) (by show thas B.F.ts (B.F.of 0) = true; rw [HSS.out.2.1]; exact HT.out.has_) (by have := HKY.out; omega) (by have := HKY.out; omega) (by have := HT.out.kl; show B.F.ks.length ≤ _; omega) (by have := HM.out; have := HLT.out; omega) (by decide) (by decide) HU2.out)
      have HC := Aside0.mk hc
      have HKS := Aside0.mk hks
      clear hput hc hks
      go_wp2_with fail
      refine HPU.out.mono ?_
      rintro e w7 ⟨rfl, hpost⟩
      obtain ⟨hk7, hb7⟩ := bk_up hpost HB6.out.size
      have HBK7 := Aside0.mk hk7
      have HB7 := Aside0.mk (HB6.out.trans hb7)
      clear hpost hk7 hb7 HPU
      obtain ⟨la, hla⟩ : ∃ la, F1.S.l.last = la := ⟨_, rfl⟩
      have hlb : 0 ≤ la ∧ la ≤ 1073741825 := by
        have := tw_last HT.out
        rw [← hla, HC.out.last]
        omega
      have hwl : IntKind.i64.wrap (la + 1) = la + 1 := by rw [IntKind.wrap_i64]; omega
      have HLA := Aside0.mk (show B.F.S.l.last + 2 = la + 1 by rw [← hla, HC.out.last]; omega)
      obtain ⟨B7, hF7, hS7, hN7, hk7⟩ : ∃ B7 : BSt, B7.F = F1 ∧ B7.sv 0 = ⟨1, [2, 2]⟩ ∧ B7.nu = B.nu + 1 ∧ BkM (fun k => w1.heap.size ≤ k) w7 bp bm sp lp pp dp qp mp 60 2 B7 := ⟨_, rfl, rfl, rfl, HBK7.out⟩
      subst hF7
      have HBQ7 := Aside0.mk hk7
      have HS7 := Aside0.mk hS7
      have HN7 := Aside0.mk hN7
      have HL7 := Aside0.mk (show Calls Tryz.prog 24 #[.pointer (some ⟨lp, 0, none⟩)] w7 fun e w' => e = .returned (.int .i64 la) ∧ Below w7.heap.size w7 w' from by rw [← hla]; exact last_bk HBQ7.out)
      clear hk7 hS7 hN7 HBK7 hla hlb
      go_wp2_with fail
      refine HL7.out.mono ?_
      rintro e w8 ⟨rfl, hb⟩
      have HBK8 := Aside0.mk (HBQ7.out.below hb)
      have HB8 := Aside0.mk (HB7.out.trans (hb.mono HB7.out.size))
      clear hb HL7
      have HBA := Aside0.mk (by
        obtain ⟨q1, q2, q3, q4, q5, q6⟩ := HC.out.same
        have := back_calls a _ bp bm sp lp pp dp qp mp 60 2 B7 0 1 0 0 _ (m + 1) _ _ [B.F.S.l.last + 1] [2] w8 HBK8.out HC.out.ok (by rw [q4]; exact HSS.out.2.1) HC.out.has_ (by rw [HS7.out]) (by rw [HS7.out]; decide) (by decide) (by rw [HS7.out]; rfl) (by unfold updc; rw [if_pos rfl, HT.out.ch1]; rfl) (fun _ => by decide) (by have := HM.out; have := HLT.out; simp; omega) (by rw [q6, HSS.out.2.2]; decide) (HS1.out.below HB8.out) HO.out (by decide) (by rw [q2, HSS.out.1]; decide) (by rw [q2, HSS.out.1]; decide) (by rw [HN7.out]; have := HR.out.nu; have := HLT.out; omega) (by decide) (by decide)
        rw [show ((0 : Nat) : Int) = 0 from rfl] at this
        exact this)
      go_wp2_with fail
      refine HBA.out.mono ?_
      rintro e w9 ⟨rfl, F2, hu, hpost⟩
      obtain ⟨hq9, hb9⟩ := bk_up hpost HB8.out.size
      obtain ⟨ch2, ht2, hl2⟩ := tw_back HT.out HC.out HKS.out hu
      obtain ⟨B9, hF9, hS9, hN9, hk9⟩ : ∃ B9 : BSt, B9.F = F2 ∧ B9.sv 0 = ⟨1, [2]⟩ ∧ B9.nu = B.nu + 2 ∧ BkM (fun k => w1.heap.size ≤ k) w9 bp bm sp lp pp dp qp mp 60 2 B9 := ⟨_, rfl, by show (⟨1, (B7.sv 0).l.take 1⟩ : Sv) = _; rw [HS7.out]; rfl, by show B7.nu + 1 = _; rw [HN7.out]; omega, hq9⟩
      subst hF9
      have HBK9 := Aside0.mk hk9
      have HB9 := Aside0.mk (HB8.out.trans hb9)
      have HT9 := Aside0.mk ht2
      have HS9 := Aside0.mk hS9
      have HN9 := Aside0.mk hN9
      have HL9 := Aside0.mk (show Calls Tryz.prog 24 #[.pointer (some ⟨lp, 0, none⟩)] w9 fun e w' => e = .returned (.int .i64 (la + 1)) ∧ Below w9.heap.size w9 w' from by rw [← HLA.out, ← hl2]; exact last_bk hk9)
      have HLL9 := Aside0.mk (hl2.trans HLA.out)
      clear hpost hq9 hk9 hb9 hu ht2 hl2 hS9 hN9 HBA
      go_wp2_with fail
      refine HL9.out.mono ?_
      rintro e w10 ⟨rfl, hb⟩
      have HBK10 := Aside0.mk (HBK9.out.below hb)
      have HB10 := Aside0.mk (HB9.out.trans (hb.mono HB9.out.size))
      clear hb HL9
      have HBD := Aside0.mk (by
        obtain ⟨s1, s2, s3, s4, s5, s6⟩ := HT9.out.same
        obtain ⟨t1, t2⟩ := tw_tx HT9.out
        have := back_bad a _ bp bm sp lp pp dp qp mp 60 2 B9 0 1 0 w10 HBK10.out (by rw [s4]; exact HT9.out.has_) HT9.out.ok.t.rise (by rw [s4, t1]; unfold svOf; rw [HS9.out]; decide) (by decide) (by rw [s2]; decide) (by rw [s2]; decide) (HS1.out.below HB10.out)
        rw [show ((1 : Nat) : Int) = 1 from rfl] at this
        exact this)
      go_wp2_with fail
      refine HBD.out.mono ?_
      rintro e w11 ⟨rfl, hb⟩
      have HBK11 := Aside0.mk (HBK10.out.below hb)
      have HB11 := Aside0.mk (HB10.out.trans (hb.mono HB10.out.size))
      clear hb HBD
      go_wp2_with fail
      refine (is_calls a (errv a (some 14)) 115 (.inr ⟨14, by decide, rfl, by decide⟩) 115 _ (HS1.out.below HB11.out)).mono ?_
      rintro e w12 ⟨rfl, hb⟩
      have HBK12 := Aside0.mk (HBK11.out.below hb)
      have HB12 := Aside0.mk (HB11.out.trans (hb.mono HB11.out.size))
      clear hb
      rw [show ((115 : Int) == 115) = true from by decide]
      have HBA := Aside0.mk (by
        obtain ⟨s1, s2, s3, s4, s5, s6⟩ := HT9.out.same
        have := back_calls a _ bp bm sp lp pp dp qp mp 60 2 B9 0 1 0 0 _ (m + 2) _ _ [] [2] w12 HBK12.out HT9.out.ok s4 HT9.out.has_ (by rw [HS9.out]) (by rw [HS9.out]; decide) (by decide) (by rw [HS9.out]; rfl) HT9.out.ch1 (fun _ => by decide) (by have := HM.out; have := HLT.out; simp; omega) (by rw [s5]; decide) (HS1.out.below HB12.out) HO.out (by decide) (by rw [s2]; decide) (by rw [s2]; decide) (by rw [HN9.out]; have := HR.out.nu; have := HLT.out; omega) (by decide) (by decide)
        rw [show ((0 : Nat) : Int) = 0 from rfl] at this
        exact this)
      go_wp2_with fail
      refine HBA.out.mono ?_
      rintro e w13 ⟨rfl, F3, hu, hpost⟩
      obtain ⟨hk13, hb13⟩ := bk_up hpost HB12.out.size
      obtain ⟨ch3, ht3, hl3⟩ := tw_same HT9.out hu
      obtain ⟨BD, hFD, hSD, hND, hkD⟩ : ∃ BD : BSt, BD.F = F3 ∧ BD.sv 0 = ⟨1, [2]⟩ ∧ BD.nu = B.nu + 3 ∧ BkM (fun k => w1.heap.size ≤ k) w13 bp bm sp lp pp dp qp mp 60 2 BD := ⟨_, rfl, by show (⟨1, (B9.sv 0).l.take 1⟩ : Sv) = _; rw [HS9.out]; rfl, by show B9.nu + 1 = _; rw [HN9.out]; omega, hk13⟩
      subst hFD
      have HBKD := Aside0.mk hkD
      have HBD := Aside0.mk (HB12.out.trans hb13)
      have HTD := Aside0.mk ht3
      have HSD := Aside0.mk hSD
      have HND := Aside0.mk hND
      have HLD := Aside0.mk (show Calls Tryz.prog 24 #[.pointer (some ⟨lp, 0, none⟩)] w13 fun e w' => e = .returned (.int .i64 (la + 1)) ∧ Below w13.heap.size w13 w' from by rw [← HLL9.out, ← hl3]; exact last_bk hkD)
      clear hpost hk13 hkD hb13 hu ht3 hl3 hSD hND HBA
      go_wp2_with fail
      refine HLD.out.mono ?_
      rintro e w14 ⟨rfl, hb⟩
      have HBK14 := Aside0.mk (HBKD.out.below hb)
      have HB14 := Aside0.mk (HBD.out.trans (hb.mono HBD.out.size))
      clear hb HLD
      obtain ⟨hg1, hg2, hg3, hg4⟩ := tw_get HTD.out
      have HGE := Aside0.mk (by
        obtain ⟨s1, s2, s3, s4, s5, s6⟩ := HTD.out.same
        have := bget_calls a _ bp bm sp lp pp dp qp mp 60 2 BD 0 key 0 _ (m + 2) _ _ w14 HBK14.out HTD.out.ok hg4 (HS1.out.below HB14.out) HO.out (by decide) (by rw [s2]; decide) (by rw [s2]; decide) (by rw [s4]; exact HTD.out.has_) (by have := HKY.out; omega) (by have := HKY.out; omega) (by have := HTD.out.kl; omega) (by have := HM.out; have := HLT.out; omega) (by decide) (by decide)
        rw [hg2, hg3] at this
        exact this)
      have HTG := Aside0.mk hg1
      clear hg1 hg2 hg3 hg4
      go_wp2_with fail
      refine HGE.out.mono ?_
      rintro e w15 ⟨rfl, hpost⟩
      obtain ⟨hk15, hb15⟩ := bk_up hpost HB14.out.size
      have HBK15 := Aside0.mk hk15
      have HB15 := Aside0.mk (HB14.out.trans hb15)
      clear hpost hk15 hb15 HGE
      go_wp2_with fail
      go_roundg (gk - 1)
      case measure => have := HI.out; omega
      case rel =>
        have hir : (i + 1).toNat = i.toNat + 1 := by omega
        refine ⟨i + 1, ⟨takesF BD.F 0 key 1 0, BD.sv, BD.nu⟩, rfl, ⟨by omega, by omega, by have := HI.out; omega⟩, ⟨⟨⟨m + 2 + 1, ch3, ?_, ?_⟩, HSD.out, ?_⟩⟩, HBK15, HB15⟩
        · have e : (355 : Int) - 2 * (((i + 1).toNat : Nat) : Int) = 355 - 2 * ((i.toNat : Nat) : Int) - 2 := by rw [hir]; push_cast; omega
          rw [e]
          exact HTG.out
        · have := HM.out
          rw [hir]; omega
        · show BD.nu ≤ _
          rw [HND.out, hir]
          have := HR.out.nu
          push_cast
          omega
    · have hok := HT.out.ok
      obtain ⟨R, sl, hbi⟩ := HBK.out
      have HBI := Aside0.mk hbi
      obtain ⟨c0, _⟩ := hbi.cells
      have hbl := heap_lt hbi.box
      have HCM := Aside0.mk (commit_calls a R sp lp pp dp qp mp 60 2 B.F 0 1 _ m ch _ wr hbi.f hok (commit_ok (n := 0) hok HT.out.has_ HSS.out.2.1 rfl (fun _ => by decide)) (HS1.out.below HB.out) (OutAll.sub (M' := R) HO.out fun k hk => (hbi.r k hk).1) (by decide) (by rw [s2]; decide) (by rw [s2]; decide) HSS.out.2.1 HT.out.has_ (by have := HM.out; have := HN.out; have := HI.out; omega) (fun x hx => (HT.out.kok.own x hx).symm))
      clear hok hbi ht hm t1 t2 s1 s2 s3 s4 s5 s6
      go_wp2_with fail
      refine HCM.out.mono ?_
      rintro e w20 ⟨rfl, hpost⟩
      obtain ⟨_, hb20⟩ := bk_up (HBI.out.fw hpost) HB.out.size
      have HB20 := Aside0.mk (below_step HB1.out (HB.out.trans hb20))
      clear hpost hb20 c0 hbl
      go_wp2_with fail
      go_ret
      exact ⟨rfl, HB20.out⟩
end Go.Proofs.YtaplpeoikebedaaGreatDoor.WalkBackTwice
