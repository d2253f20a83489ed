/- Joined texts: FwdK, RefF. No condition but what each says. -/
import Derived.Test.YtaplpeoikebedaaGreatDoorU34
import Derived.Test.YtaplpeoikebedaaGreatDoorU36
import Derived.Test.YtaplpeoikebedaaGreatDoorU26
import Derived.Test.YtaplpeoikebedaaGreatDoorU39
set_option maxHeartbeats 8000000
set_option maxRecDepth 100000
set_option linter.unusedVariables false
set_option linter.unusedSimpArgs false
namespace Go.Proofs.YtaplpeoikebedaaGreatDoor.FwdK
open Go.RowKit Go.Maps YtaplpeoikebedaaGreatDoorW.PrintWords YtaplpeoikebedaaGreatDoorW.PrintLast YtaplpeoikebedaaGreatDoorW.PrintMore
open See Mem Page Disk DiskN DiskW RecD Rec Dirty Wal WalF Pool2 SysD SysM FlushG StoreD StoreF StoreH StoreK ChainT TransT LockT LockU SpaceT WaitT FwdM FwdP FwdC FwdN FwdB EndT FwdL
attribute [local go_sem] max2_imax min2_imin max_two min_two
theorem commit_calls (a : Nat → Addr) (M : Nat → Prop) (sp lp pp dp qp mp : Nat) (blocks frames : Int) (F : FS) (n id : Int) (N m : Nat) (ch : Int → List Int) (kp : Int → Int) (w : World) (h : FwM M w sp lp pp dp qp mp blocks frames F) (hok : FOk N m ch kp F) (hcm : CommitOk N m ch kp F n id) (hs : SentsAll w a) (hO : OutAll M a) (h0 : 0 ≤ n) (h1 : n < F.sess) (h2 : F.sess ≤ 1000) (hof : F.of n = id) (hid : thas F.ts id = true) (hm : m ≤ 30000) (hall : ∀ x ∈ F.ks, x.s = n) :
    Calls Tryz.prog 25 #[.pointer (some ⟨sp, 0, none⟩), .int .i64 n] w fun e w' => e = .returned .nilIface ∧ FwPost M sp lp pp dp qp mp blocks frames (commitF F n id ((ch id).length : Int)) w w' := by
  have HC := Aside0.mk (called_calls M sp lp pp dp qp mp blocks frames F n w h h0 h1 h2 (by rw [hof]; exact hid) hok.t.rise)
  have HF := Aside0.mk h
  have HS := Aside0.mk hs
  have HO := Aside0.mk hO
  have HOK := Aside0.mk hok
  have HCM := Aside0.mk hcm
  have HM := Aside0.mk hm
  have HALL := Aside0.mk hall
  have HOF := Aside0.mk (And.intro hof hid)
  have HN := Aside0.mk (And.intro h0 (And.intro h1 h2))
  obtain ⟨x, hxx⟩ : ∃ x, tget F.ts id = x := ⟨_, rfl⟩
  have htid := (tget_mem hid).2
  have HXX := Aside0.mk hxx
  rw [hof, hxx] at HC
  rw [hxx] at htid
  obtain ⟨xi, xs, xl, xn⟩ := x
  simp only at htid
  subst htid
  simp only [txV] at HC
  clear h hok hcm hs hO h0 h1 h2 hof hid hm hall hxx
  go_enter Tryz.func25, Tryz.ntmps25
  go_wp2_with fail
  refine HC.out.mono ?_
  rintro e w1 ⟨rfl, hb⟩
  obtain ⟨bx, hbx⟩ : ∃ bx, w1.heap.size = bx := ⟨_, rfl⟩
  obtain ⟨V0, hV0⟩ : ∃ V, w1.alloc (.cells #[.int .i64 xi, .int .i64 xs, .int .i64 xl, .int .i64 xn] 102) = V := ⟨_, rfl⟩
  have HXB := Aside0.mk (show V0.heap[bx]? = some (.cells #[.int .i64 xi, .int .i64 xs, .int .i64 xl, .int .i64 xn] 102 (0, 0)) by rw [← hV0, ← hbx]; exact heap_alloc_new _ _)
  have HB0 := Aside0.mk (show Below w.heap.size w V0 by rw [← hV0]; exact below_alloc hb _)
  have HL0 := Aside0.mk (LB.start HF.out HB0.out)
  have hbw : w.heap.size ≤ bx := by have := hb.size; omega
  have HWE := Aside0.mk (And.intro hV0 hbx)
  clear hb hbx hV0
  go_upto_region 2 with fail
  rw [HWE.out.1, HWE.out.2]
  have j4 := HL0.out.f.cells.2.2.1
  obtain ⟨x0, x1, x2, x3, _, _, _, _⟩ := tx_cells HXB.out
  have HALLC := Aside0.mk (show ∀ (V : World), Below V0.heap.size V0 V → Calls Tryz.prog 73 #[.pointer (some ⟨lp, 0, none⟩), .int .i64 xn] V fun e w' => ∃ v', e = .returned (.tuple #[v', .nilIface]) ∧ IS w' V.heap.size v' (ch xi) ∧ Below V.heap.size V w' from fun V hbl => by
    have hl := HL0.out.below hbl
    obtain ⟨lv, hlg⟩ := hl.f.sys.log
    have hc := HCM.out.chain
    rw [HXX.out] at hc
    exact all_calls _ lp dp lv F.S.l xn (ch xi) V hlg hc HCM.out.few)
  go_upto_region 4 with fail
  go_cut [7, 6] (fun v7 v6 wx => v6 = .nilIface ∧ (∃ A c, v7 = .slice A (ch xi).length c) ∧ Aside0 (Below V0.heap.size V0 wx))
  case first =>
    go_region_law (first
      | (go_simp; go_at_call 73; refine (HALLC.out _ (by repeat (first | exact Below.refl _ _ | apply below_drew1))).mono ?_; rintro e w4 ⟨v4, rfl, hi4, hb4⟩; obtain ⟨A4, c4, rfl, _⟩ := ow_slice hi4; have HB4 := Aside0.mk hb4; clear hi4 hb4))
    all_goals
      go_wp2_with fail
      go_meet
      exact ⟨rfl, ⟨_, _, rfl⟩, ⟨below_step (by repeat (first | exact Below.refl _ _ | apply below_drew1)) HB4.out⟩⟩
  case rest =>
    obtain ⟨rfl, ⟨A4, c4, rfl⟩, HB4⟩ := hcut
    generalize wc = V1 at HB4 ⊢
    have HL1 := Aside0.mk (HL0.out.below HB4.out)
    have HSS := Aside0.mk (HL1.out.sents HS.out HO.out)
    obtain ⟨k, hk⟩ : ∃ k, (ch xi).length = k := ⟨_, rfl⟩
    have HK := Aside0.mk hk
    rw [hk]
    clear x0 x1 x2 x3 j4 hk
    obtain ⟨x0, x1, x2, x3, _, _, _, _⟩ := tx_cells (HL1.out.at HXB.out hbw)
    have HFA := Aside0.mk (by
      have h4 := HCM.out.rec4
      rw [HXX.out] at h4
      exact fappend_calls a _ sp lp pp dp qp mp blocks frames F (recMark ⟨xi, xs, xl, xn⟩ 4) V1 HL1.out.f HSS.out.1 HSS.out.2 ⟨HCM.out.kept, (room_top HOK.out.g).2⟩ h4 HCM.out.room)
    simp only [recV, recMark] at HFA
    go_wp2_with fail
    refine HFA.out.mono ?_
    rintro e V2 ⟨rfl, hp2⟩
    have HL2 := Aside0.mk (HL1.out.step hp2)
    clear hp2 x0 x1 x2 x3 HFA
    obtain ⟨cs, tv, htx, hput⟩ := FwM.txs HL2.out.f HOK.out.t.rise
    have HTX := Aside0.mk htx
    have HPT := Aside0.mk hput
    clear htx hput
    have HNT := Aside0.mk (show ∀ (V : World), Below V2.heap.size V2 V → Calls Tryz.prog 66 #[.pointer (some ⟨sp, 8, none⟩), .int .i64 xi, .int .i64 (F.S.l.last + 1), .int .i64 xn] V (fun e w' => e = .returned (.bool true) ∧ ∃ R, LB M sp lp pp dp qp mp blocks frames { addK F (recMark ⟨xi, xs, xl, xn⟩ 4) with ts := tnote F.ts xi (F.S.l.last + 1) xn } w V0 R w') from fun V hbl => by
      have := tnote_calls _ sp 8 118 cs tv F.ts F.most xi (F.S.l.last + 1) xn V (HTX.out.below hbl) HOF.out.2
      exact this.mono fun e w' hh => by
        obtain ⟨rfl, hpost⟩ := hh
        exact ⟨rfl, _, HL2.out.step (HPT.out _ _ _ (Int.le_refl _) (hpost.back hbl))⟩)
    obtain ⟨x0, x1, x2, x3, _, _, _, _⟩ := tx_cells (HL2.out.at HXB.out hbw)
    go_upto_region 10 with fail
    go_cut [] (fun wx => ∃ R, Aside0 (LB M sp lp pp dp qp mp blocks frames { addK F (recMark ⟨xi, xs, xl, xn⟩ 4) with ts := tnote F.ts xi (F.S.l.last + 1) xn } w V0 R wx))
    case first =>
      go_region_law (first
        | (go_simp; go_at_call 66; refine (HNT.out _ (by repeat (first | exact Below.refl _ _ | apply below_drew1))).mono ?_; rintro e w6 ⟨rfl, R6, hl6⟩; have HL6 := Aside0.mk hl6; clear hl6))
      all_goals
        go_wp2_with fail
        go_meet
        exact ⟨R6, HL6⟩
    case rest =>
      obtain ⟨R3, HL3⟩ := hcut
      generalize wc = V3 at HL3 ⊢
      clear x0 x1 x2 x3 HTX HPT HNT
      have HRS := Aside0.mk (show Rising (kvT (tnote F.ts xi (F.S.l.last + 1) xn)) by have := HCM.out.rise1; rw [HXX.out] at this; exact this)
      have HHS := Aside0.mk (show thas (tnote F.ts xi (F.S.l.last + 1) xn) xi = true by have := HCM.out.has1; rw [HXX.out] at this; exact this)
      obtain ⟨cs2, tv2, htx, hput⟩ := FwM.txs HL3.out.f HRS.out
      have HTX := Aside0.mk htx
      have HPT := Aside0.mk hput
      clear htx hput
      have HST := Aside0.mk (show ∀ (V : World), Below V3.heap.size V3 V → Calls Tryz.prog 75 #[.pointer (some ⟨sp, 8, none⟩), .int .i64 xi, .int .i64 1] V (fun e w' => e = .returned (.bool true) ∧ ∃ R, LB M sp lp pp dp qp mp blocks frames (markF F xi 4 1) w V0 R w') from fun V hbl => by
        have := tstate_calls _ sp 8 118 cs2 tv2 (tnote F.ts xi (F.S.l.last + 1) xn) F.most xi 1 V (HTX.out.below hbl) HHS.out
        exact this.mono fun e w' hh => by
          obtain ⟨rfl, hpost⟩ := hh
          have hl := HL3.out.step (HPT.out _ _ _ (Int.le_refl _) (hpost.back hbl))
          have hmk : markF F xi 4 1 = { addK F (recMark ⟨xi, xs, xl, xn⟩ 4) with ts := tstate (tnote F.ts xi (F.S.l.last + 1) xn) xi 1 } := by
            unfold markF
            rw [HXX.out]
            rfl
          rw [hmk]
          exact ⟨rfl, _, hl⟩)
      obtain ⟨x0, x1, x2, x3, _, _, _, _⟩ := tx_cells (HL3.out.at HXB.out hbw)
      go_upto_region 11 with fail
      go_cut [] (fun wx => ∃ R, Aside0 (LB M sp lp pp dp qp mp blocks frames (markF F xi 4 1) w V0 R wx))
      case first =>
        go_region_law (first
          | (go_simp; go_at_call 75; refine (HST.out _ (by repeat (first | exact Below.refl _ _ | apply below_drew1))).mono ?_; rintro e w6 ⟨rfl, R6, hl6⟩; have HL6 := Aside0.mk hl6; clear hl6))
        all_goals
          go_wp2_with fail
          go_meet
          exact ⟨R6, HL6⟩
      case rest =>
        obtain ⟨R4, HL4⟩ := hcut
        generalize wc = V4 at HL4 ⊢
        clear x0 x1 x2 x3 HTX HPT HST
        have j4 := HL4.out.f.cells.2.2.1
        obtain ⟨lv, hlg⟩ := HL4.out.f.sys.log
        have HLG := Aside0.mk hlg
        have HS4 := Aside0.mk (HL4.out.sents HS.out HO.out)
        clear hlg
        go_wp2_with fail
        refine (flush_log a _ lp dp lv (markF F xi 4 1).S.l (markF F xi 4 1).S.d _ (HS4.out.1.k _ (by decide)) (HS4.out.2.k _ (by decide)) HL4.out.f.sys.dsk HLG.out HCM.out.ok1.g.fuse (HCM.out.ok1.g.loose.mono (by have := HM.out; omega))).mono ?_
        rintro e V5 ⟨rfl, hd5, hl5, hf5⟩
        rw [HCM.out.fine, show errv a none = .nilIface from rfl]
        have HL5 := Aside0.mk (show LB M sp lp pp dp qp mp blocks frames (flushF (markF F xi 4 1)) w V0 _ V5 from HL4.out.step (FwM.sy HL4.out.f (SysM.logd HL4.out.f.sys hd5 hl5 hf5 HCM.out.ok2.g.fuse) (frm_sys2 hf5)))
        have HS5 := Aside0.mk (HL5.out.sents HS.out HO.out)
        clear hd5 hl5 hf5 j4 HLG
        go_wp2_with fail
        refine (leave_calls a _ sp lp pp dp qp mp blocks frames (flushF (markF F xi 4 1)) n xi _ HL5.out.f HS5.out.1 HS5.out.2 HN.out.1 (by have := HN.out; omega) HOF.out.1 HCM.out.has2 HCM.out.ok2.t.rise (tget_mem HCM.out.has2).2 ⟨by have := HCM.out.kept2; omega, (room_top HCM.out.ok2.g).2⟩ HCM.out.rec6 HCM.out.room2 HALL.out).mono ?_
        rintro e V6 ⟨rfl, hp6⟩
        have HL6 := Aside0.mk (HL5.out.step hp6)
        clear hp6
        have j10 := HL6.out.f.cells.2.2.2.2.2.2.1
        go_wp2_with fail
        refine (let_space _ qp (flushF (markF F xi 4 1)).free ((flushF (markF F xi 4 1)).kept - 1) (k : Int) _ HL6.out.f.room HL6.out.f.low.2.1 (by omega) (by have := HCM.out.kept2; have := HK.out; omega) (by have := (room_top HCM.out.ok2.g).2; omega) HCM.out.ok2.g.room.1 (room_top HCM.out.ok2.g).1).mono ?_
        rintro e V7 ⟨rfl, hs7, hf7⟩
        have HL7 := Aside0.mk (HL6.out.step (FwM.spc HL6.out.f hs7 hf7))
        clear hs7 hf7 j10
        have HFE := Aside0.mk (show freeL (flushF (markF F xi 4 1)).ks n = [] from by
          unfold freeL
          rw [List.filter_eq_nil_iff]
          intro y hy
          have := HALL.out y hy
          simp [this])
        go_wp2_with fail
        go_ret
        refine ⟨rfl, ?_⟩
        have hp := HL7.out.post
        unfold commitF endF
        rw [HFE.out, HK.out]
        exact hp
end Go.Proofs.YtaplpeoikebedaaGreatDoor.FwdK
namespace Go.Proofs.YtaplpeoikebedaaGreatDoor.RefF
open Go.RowKit Go.Maps YtaplpeoikebedaaGreatDoorW.PrintWords YtaplpeoikebedaaGreatDoorW.PrintLast YtaplpeoikebedaaGreatDoorW.PrintMore
open See Mem Clone Go.Proofs.YtaplpeoikebedaaGreatDoor.Cell Page PageB PageR PageL Disk Dirty Pool2 RecD Wal PoolG SysD SysM StoreD PageM StoreF StoreI StoreJ StoreW TransT LockT LockU SpaceT WaitT FwdM FwdP FwdC FwdT FwdU FwdW FwdX Pager BackM BackE
attribute [local go_sem] max2_imax min2_imin max_two min_two
theorem ends_err (a : Nat → Addr) (p : Value) (n hint v : Int) (is : Bool) (i : Nat) (w : World) (hs : SentsAll w a) (hi : i < 18) (h11 : i ≠ 11) (h8 : i ≠ 8) :
    Calls Tryz.prog 87 #[p, .int .i64 n, .int .i64 hint, .int .i64 v, .bool is, errv a (some i)] w fun e w' => e = .returned (.tuple #[.int .i64 v, .bool is, errv a (some i)]) ∧ Below w.heap.size w w' := by
  have hg11 : w.cell? ⟨12, 0, none⟩ = some (.iface 333 (.pointer (some (a 11)))) := hs.cell 11 (by decide)
  have hg8 : w.cell? ⟨2, 0, none⟩ = some (.iface 333 (.pointer (some (a 8)))) := hs.cell 8 (by decide)
  have he11 := eql_other hs hi (show 11 < 18 by decide) h11
  have he8 := eql_other hs hi (show 8 < 18 by decide) h8
  rw [show errv a (some i) = .iface 333 (.pointer (some (a i))) from rfl]
  clear hs
  go_enter Tryz.func87, Tryz.ntmps87
  go_wp2_with fail
  exact bodyPost_ret (v := .tuple #[.int .i64 v, .bool is, .iface 333 (.pointer (some (a i)))]) (by simp [results, Tryz.results87, go_sem]) rfl ⟨rfl, Below.refl _ _⟩
theorem bput_full (a : Nat → Addr) (M : Nat → Prop) (bp bm sp lp pp dp qp mp : Nat) (blocks frames : Int) (B : BSt) (n key v hint : Int) (N m : Nat) (ch : Int → List Int) (kp : Int → Int) (own : Int → Int) (F' : FS) (w : World) (h : BkM M w bp bm sp lp pp dp qp mp blocks frames B) (hR : putR B.F n key v hint = (F', 0, false, some 9)) (hok : FOk N m ch kp B.F) (hk : KOk own B.F.ks) (he : own key = n) (hs : SentsAll w a) (hO : OutAll M a) (h0 : 0 ≤ n) (h1 : n < B.F.sess) (h2 : B.F.sess ≤ 1000)
    (hx : thas B.F.ts (B.F.of n) = true) (hk0 : 0 ≤ key) (hk1 : key < 1048576) (hl : B.F.ks.length ≤ 80000) (hm : m ≤ 30000) (hh0 : -9223372036854775808 ≤ hint) (hh1 : hint ≤ 9223372036854775807) (hv : is64 v) :
    Calls Tryz.prog 33 #[.pointer (some ⟨bp, 0, none⟩), .int .i64 n, .int .i64 key, .int .i64 v, .int .i64 hint] w fun e w' => e = .returned (.tuple #[.int .i64 0, .bool false, errv a (some 9)]) ∧ BkPost M bp bm sp lp pp dp qp mp blocks frames { B with F := F' } w w' := by
  obtain ⟨R, sl, h⟩ := h
  have HP := Aside0.mk (put_calls a R sp lp pp dp qp mp blocks frames B.F n key v hint N m ch kp own w h.f hok hk he hs (OutAll.sub (M' := R) hO fun k hk => (h.r k hk).1) h0 h1 h2 hx hk0 hk1 hl hm hh0 hh1 hv)
  unfold PutPost at HP
  rw [hR] at HP
  have HH := Aside0.mk h
  have HS := Aside0.mk hs
  have HO := Aside0.mk hO
  obtain ⟨c0, c1⟩ := h.cells
  have hbl := heap_lt h.box
  have hev : errv a (some 9) = .iface 333 (.pointer (some (a 9))) := rfl
  rw [hev] at HP
  clear h hR hok hk he hs hO hx hl hm hv h0 h1 h2
  go_enter Tryz.func33, Tryz.ntmps33
  go_wp2_with fail
  refine HP.out.mono ?_
  rintro e w1 ⟨rfl, hp⟩
  have HP1 := Aside0.mk (HH.out.fw hp)
  have HS1 := Aside0.mk (SentsAll.kp HS.out HP1.out.2 HO.out)
  clear hp c0 c1 hbl
  have HEN := Aside0.mk (by
    have := ends_err a (.pointer (some ⟨bp, 0, none⟩)) n hint 0 false 9 w1 HS1.out (by decide) (by decide) (by decide)
    rw [hev] at this
    exact this)
  go_wp2_with fail
  refine HEN.out.mono ?_
  rintro e w2 ⟨rfl, hb⟩
  have HP2 := Aside0.mk (BkPost.step HP1.out hb)
  clear hb
  go_wp2_with fail
  exact bodyPost_ret (v := .tuple #[.int .i64 0, .bool false, .iface 333 (.pointer (some (a 9)))]) (by simp [results, Tryz.results33, go_sem]) rfl ⟨rfl, HP2.out⟩
theorem p2_at {w : World} {t : Nat} {A : Option Addr} {l cap : Nat} {es : List (Int × Int)} (h : P2 w t (.slice A l cap) es) {i : Nat} {f : Int × Int} (hi : es[i]? = some f) :
    ∃ g, A = some ⟨g, 0, none⟩ ∧ l = es.length ∧ w.cell? ⟨g, i * 2, none⟩ = some (.int .i64 f.1) ∧ w.cell? ⟨g, i * 2 + 1, none⟩ = some (.int .i64 f.2) := by
  rcases h.form with ⟨_, h0⟩ | ⟨g, c, hv, hc⟩
  · rw [h0] at hi; cases hi
  · injection hv with h1 h2 h3
    subst h1 h2
    obtain ⟨a1, a2⟩ := hc.1 i f hi
    exact ⟨g, rfl, rfl, a1, a2⟩
theorem rfind_calls (l0 : Int) (v : Value) (es : List (Int × Int)) (key : Int) (w : World) (hp : P2 w 169 v es) (hr : Rising es) :
    Calls Tryz.prog 38 #[.agg #[.int .i64 l0, v], .int .i64 key] w fun e w' => e = .returned (.tuple #[.int .i64 ((val es key).getD 0), .bool (val es key).isSome]) ∧ Below w.heap.size w w' := by
  obtain ⟨A, c, rfl, _⟩ := ow_slice hp.1
  obtain ⟨l, hl⟩ : ∃ l, es.length = l := ⟨_, rfl⟩
  have HL := Aside0.mk hl
  have HR := Aside0.mk hr
  have hl5 : l ≤ 100000 := by rw [← hl]; exact hp.2
  rw [hl]
  obtain ⟨W, hW⟩ : ∃ W, w.alloc (.cells #[.int .i64 l0, .slice A l c] 74) = W := ⟨_, rfl⟩
  have HB := Aside0.mk (show Below w.heap.size w W by rw [← hW]; exact below_alloc (Below.refl _ _) _)
  have HG := Aside0.mk (show W.heap[w.heap.size]? = some (.cells #[.int .i64 l0, .slice A l c] 74 (0, 0)) by rw [← hW]; exact heap_alloc_new _ _)
  have HP := Aside0.mk (hp.below HB.out)
  have HWE := Aside0.mk hW
  clear hp hr hl hW
  go_enter Tryz.func38, Tryz.ntmps38
  go_upto_region 1 with fail
  rw [HWE.out]
  obtain ⟨_, _, g0, g1⟩ := Go.Proofs.YtaplpeoikebedaaGreatDoor.FwdT.pg_cells HG.out
  have hgl := heap_lt HG.out
  go_wp2_with fail
  go_loopg [6] (l + 1) (fun kq v6 w' => ∃ i : Int, v6 = .int .i64 i ∧ w' = W ∧ Aside0 (0 ≤ i ∧ i ≤ l ∧ (l : Int) - i + 1 ≤ kq) ∧ Aside0 (∀ e ∈ es.take i.toNat, e.1 ≠ key))
  case atStart => exact ⟨0, rfl, rfl, ⟨by omega, by omega, by omega⟩, ⟨fun e he => by simp at he⟩⟩
  case round =>
    obtain ⟨i, rfl, rfl, HI, HN⟩ := hrel
    have hi0 : 0 ≤ i := HI.out.1
    by_cases hlt : i < l
    · obtain ⟨f, hf⟩ : ∃ f, es[i.toNat]? = some f := ⟨_, List.getElem?_eq_getElem (by have := HL.out; omega)⟩
      obtain ⟨g, rfl, hll, hd0, hd1⟩ := p2_at HP.out hf
      have HFF := Aside0.mk hf
      obtain ⟨fk, fv⟩ := f
      simp only at hd0 hd1
      have hwi : IntKind.i64.wrap (i + 1) = i + 1 := by rw [IntKind.wrap_i64]; omega
      clear hf hll
      by_cases hq : fk = key
      · have HV := Aside0.mk (show val es key = some fv from (val_some HR.out key fv).2 (by rw [← hq]; exact List.mem_of_getElem? HFF.out))
        have hqq : (fk == key) = true := by simp [hq]
        go_wp2_with fail
        refine bodyPost_ret (v := .tuple #[.int .i64 fv, .bool true]) (by simp [results, Tryz.results38, go_sem]) rfl ⟨by rw [HV.out]; rfl, HB.out⟩
      · have hqq : (fk == key) = false := by simp [hq]
        have HN2 := Aside0.mk (show ∀ e ∈ es.take (i + 1).toNat, e.1 ≠ key from fun e he => by
          rw [show (i + 1).toNat = i.toNat + 1 from by omega, List.take_succ_eq_append_getElem (List.getElem?_eq_some_iff.1 HFF.out).1, (List.getElem?_eq_some_iff.1 HFF.out).2] at he
          rcases List.mem_append.1 he with he | he
          · exact HN.out e he
          · rw [List.mem_singleton] at he; rw [he]; exact hq)
        go_wp2_with fail
        go_roundg (gk - 1)
        case measure => have := HI.out; omega
        case rel => exact ⟨i + 1, rfl, rfl, ⟨by omega, by omega, by have := HI.out; omega⟩, HN2⟩
    · have HV := Aside0.mk (show val es key = none from by
        cases hx : val es key with
        | none => rfl
        | some x =>
          have hm := (val_some HR.out key x).1 hx
          exact absurd rfl (HN.out _ (by rw [List.take_of_length_le (by have := HI.out; have := HL.out; omega)]; exact hm)))
      go_wp2_with fail
      refine bodyPost_ret (v := .tuple #[.int .i64 0, .bool false]) (by simp [results, Tryz.results38, go_sem]) rfl ⟨by rw [HV.out]; rfl, HB.out⟩
end Go.Proofs.YtaplpeoikebedaaGreatDoor.RefF
