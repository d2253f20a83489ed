/- Joined texts: BackQ, FullD, FullE. No condition but what each says. -/
import Derived.Test.YtaplpeoikebedaaGreatDoorU36
import Derived.Test.YtaplpeoikebedaaGreatDoorU37
import Derived.Test.YtaplpeoikebedaaGreatDoorU40
import Derived.Test.YtaplpeoikebedaaGreatDoorU39
set_option maxHeartbeats 8000000
set_option maxRecDepth 100000
set_option linter.unusedVariables false
set_option linter.unusedSimpArgs false
namespace Go.Proofs.YtaplpeoikebedaaGreatDoor.BackQ
open Go.RowKit Go.Maps YtaplpeoikebedaaGreatDoorW.PrintWords YtaplpeoikebedaaGreatDoorW.PrintLast YtaplpeoikebedaaGreatDoorW.PrintMore
open See Mem Clone Go.Proofs.YtaplpeoikebedaaGreatDoor.Cell Page PageB PageR Disk Dirty Pool2 RecD Rec Wal WalF PoolG PoolS SysD SysM StoreD StoreF StoreH TransT LockT LockU SpaceT WaitT FwdM FwdP FwdC FwdE FwdT FwdB EndT FwdL BackD BackL BackA BackM BackW BackV BackU BackB FwdQ StoreG StoreI StoreJ StoreK PageM
attribute [local go_sem] max2_imax min2_imin max_two min_two
structure AbortQ (N m : Nat) (ch : Int → List Int) (kp : Int → Int) (F : FS) (n id : Int) (F' : FS) : Prop where
  ok : FOk N (m + (ch id).length) (updc ch id []) (updk kp id 1) F'
  vals_ : ∀ j, vals F' j = rewV F.S.l (ch id) (vals F) j
  same : F'.P = F.P ∧ F'.sess = F.sess ∧ F'.ks = freeL F.ks n ∧ F'.most = F.most ∧ F'.of = upd F.of n 0 ∧ F'.free = F.free ∧ F'.S.frames = F.S.frames
  old : ∀ n r, recOf F.S.l n = some r → recOf F'.S.l n = some r
theorem abort_end2 {N m : Nat} {ch : Int → List Int} {kp : Int → Int} {F F2 : FS} {n id : Int} (h : FOk N m ch kp F) (hof : F.of n = id) (hpos : ∀ x, 0 ≤ kp x) (hm : MarkIn N m ch kp F id) (hu : UndoR N m ch (updk kp id 1) (markF F id 5 2) id (ch id) [] F2) :
    EndIn F2 id ∧ AbortQ N m ch kp F n id (leaveG F2 n id) := by
  obtain ⟨s1, s2, s3, s4, s5, s6, s7⟩ := hu.same
  have hof2 : F2.of n = id := by rw [s5]; exact hof
  obtain ⟨e1, e2, e3, e4⟩ := end_ok (n := n) hu.ok hu.has_ hof2 (by unfold updk; rw [if_pos rfl]) (updk_pos hpos id)
  have hc : updc ch id [] id = [] := by unfold updc; rw [if_pos rfl]
  rw [hc] at e2 e4
  have hk2 : F2.ks = F.ks := s3
  have hroom := hu.ok.g.room
  have hlr : F2.S.l.room ≤ 1073741824 := by unfold Lg.room; have := hu.ok.g.lok.base; unfold Lg.last; omega
  have hE : endF F2 n id ((([] : List Int).length : Nat) : Int) = leaveG F2 n id := by
    unfold endF leaveG
    simp
  rw [hE] at e4
  refine ⟨⟨hu.has_, hu.ok.t.rise, (tget_mem hu.has_).2, ⟨by simp at e2; omega, by omega⟩, e1, e3⟩, ⟨e4, fun j => ?_, ⟨s1, s2, by show freeL F2.ks n = _; rw [hk2], s4, ?_, s6, s7⟩, fun n r hn => addRec_rec (hu.old n r (hm.old n r hn))⟩⟩
  · show vals F2 j = _
    rw [hu.vals_ j]
    have hkeep := rewV_keep (L := F.S.l) (L' := (markF F id 5 2).S.l) hm.old (ch id) (vals (markF F id 5 2)) (fun k hk => by
      obtain ⟨hx, hxid⟩ := tget_mem (show thas F.ts id = true from by
        have := hm.has1
        rw [thas_ids hm.rise1, ids_tnote, ← thas_ids h.t.rise] at this
        exact this)
      have := (h.c.last _ hx).1.at_ k (by rw [hxid]; exact hk)
      obtain ⟨_, r, hr, _⟩ := this
      exact ⟨r, hr⟩)
    rw [hkeep]
    have : vals (markF F id 5 2) = vals F := funext hm.vals_
    rw [this]
  · show upd F2.of n 0 = _
    rw [s5]
    rfl
theorem abort2_calls (a : Nat → Addr) (M : Nat → Prop) (bp bm sp lp pp dp qp mp : Nat) (blocks frames : Int) (B : BSt) (n id hint : Int) (N m : Nat) (ch : Int → List Int) (kp : Int → Int) (w : World) (h : BkM M w bp bm sp lp pp dp qp mp blocks frames B) (hok : FOk N m ch kp B.F) (hof : B.F.of n = id) (hid : thas B.F.ts id = true) (hkp2 : kp id = 2) (hkp : ∀ x, 0 ≤ kp x) (hm : m + (ch id).length ≤ 30000) (hfr : B.F.S.frames ≤ 8) (hs : SentsAll w a) (hO : OutAll M a) (h0 : 0 ≤ n) (h1 : n < B.F.sess) (h2 : B.F.sess ≤ 1000) (hh0 : -9223372036854775808 ≤ hint) (hh1 : hint ≤ 9223372036854775807) :
    Calls Tryz.prog 34 #[.pointer (some ⟨bp, 0, none⟩), .int .i64 n, .int .i64 hint] w fun e w' => e = .returned .nilIface ∧ ∃ F', AbortQ N m ch kp B.F n id F' ∧ BkPost M bp bm sp lp pp dp qp mp blocks frames { F := F', sv := updS B.sv n ⟨0, []⟩, nu := B.nu } w w' := by
  obtain ⟨R, sl, h⟩ := h
  obtain ⟨R, h, hrc⟩ : ∃ R', BkIn M w bp bm sp lp pp dp qp mp blocks frames B R' sl ∧ ∀ k, R' k → k < w.heap.size := ⟨_, h.cutR, fun k hk => hk.2⟩
  have HRC := Aside0.mk hrc
  have hroom := hok.g.room
  have hmk := mark_in hok hid hkp2 hkp
  have htid : (tget B.F.ts id).id = id := (tget_mem hid).2
  have HC := Aside0.mk (called_calls R sp lp pp dp qp mp blocks frames B.F n w h.f h0 h1 h2 (by rw [hof]; exact hid) hok.t.rise)
  rw [hof] at HC
  have HH := Aside0.mk h
  have HMK := Aside0.mk hmk
  have HOK := Aside0.mk hok
  have HKB := Aside0.mk (show 1 ≤ B.F.kept ∧ B.F.kept ≤ 1073741824 from ⟨hmk.kept, (room_top hok.g).2⟩)
  have HS := Aside0.mk hs
  have HO := Aside0.mk hO
  have HOR := Aside0.mk (OutAll.sub (M' := R) hO fun k hk => (h.r k hk).1)
  have HOF := Aside0.mk hof
  have HID := Aside0.mk hid
  have HKP := Aside0.mk hkp
  have HM := Aside0.mk hm
  have HFR := Aside0.mk hfr
  have HHB := Aside0.mk (And.intro hh0 hh1)
  have HWF := Aside0.mk (And.intro h0 (And.intro h1 h2))
  obtain ⟨x, hxx⟩ : ∃ x, tget B.F.ts id = x := ⟨_, rfl⟩
  have HXX := Aside0.mk hxx
  rw [hxx] at HC htid
  obtain ⟨xi, xs, xl, xn⟩ := x
  simp only at htid
  subst htid
  simp only [txV] at HC
  have c0 := h.cells.1
  have hbl := heap_lt h.box
  clear h hok hof hid hkp2 hkp hm hfr hs hO h0 h1 h2 hh0 hh1 hxx hrc hroom hmk
  go_enter Tryz.func34, Tryz.ntmps34
  go_wp2_with fail
  refine HC.out.mono ?_
  rintro e w1 ⟨rfl, hb⟩
  obtain ⟨W, hW⟩ : ∃ W, w1.alloc (.cells #[.int .i64 xi, .int .i64 xs, .int .i64 xl, .int .i64 xn] 102) = W := ⟨_, rfl⟩
  have HBW := Aside0.mk (show Below w.heap.size w W from below_step hb (show Below w1.heap.size w1 W by rw [← hW]; exact below_alloc (Below.refl _ _) _))
  obtain ⟨bx, hbx⟩ : ∃ b, w1.heap.size = b := ⟨_, rfl⟩
  have HXB := Aside0.mk (show W.heap[bx]? = some (.cells #[.int .i64 xi, .int .i64 xs, .int .i64 xl, .int .i64 xn] 102 (0, 0)) from by rw [← hW, ← hbx]; exact heap_alloc_new _ _)
  have HWN := Aside0.mk (And.intro hW hbx)
  have hbxw : w.heap.size ≤ bx := by have := hb.size; omega
  clear hW hb hbx c0 hbl
  go_upto_region 2 with fail
  rw [HWN.out.1, HWN.out.2]
  have HLB0 := Aside0.mk (LB.start HH.out.f HBW.out)
  have hbB : W.heap[bp]? = some (.cells #[.pointer (some ⟨sp, 0, none⟩), .map (some bm)] 61 (0, 0)) := (HBW.out.block _ (heap_lt HH.out.box)).trans HH.out.box
  have c0 : W.cell? ⟨bp, 0, none⟩ = some (.pointer (some ⟨sp, 0, none⟩)) := by simp [World.cell?, hbB]
  have hbl := heap_lt hbB
  obtain ⟨x0, x1, x2, x3, _, _, _, _⟩ := tx_cells HXB.out
  have hxl := heap_lt HXB.out
  have HBB := Aside0.mk hbB
  have HAP := Aside0.mk (show ∀ (V : World), Below W.heap.size W V → Calls Tryz.prog 74 #[.pointer (some ⟨sp, 0, none⟩), recV (recMark ⟨xi, xs, xl, xn⟩ 5)] V (fun e w' => e = .returned (.tuple #[.int .i64 (B.F.S.l.last + 1), .nilIface]) ∧ ∃ R', LB R sp lp pp dp qp mp blocks frames (addK B.F (recMark ⟨xi, xs, xl, xn⟩ 5)) w W R' w') from fun V hbl => by
    have hl := HLB0.out.below hbl
    obtain ⟨hs1, hs2⟩ := hl.sents HS.out HOR.out
    have := fappend_calls a _ sp lp pp dp qp mp blocks frames B.F (recMark ⟨xi, xs, xl, xn⟩ 5) V hl.f hs1 hs2 HKB.out (by rw [← HXX.out]; exact HMK.out.rec5) HMK.out.room
    exact this.mono fun e w' hh => ⟨hh.1, _, hl.step hh.2⟩)
  simp only [recV, recMark] at HAP
  clear hbB
  go_upto_region 4 with fail
  go_cut [9, 8] (fun v9 v8 wx => v9 = .int .i64 (B.F.S.l.last + 1) ∧ v8 = .nilIface ∧ ∃ R', Aside0 (LB R sp lp pp dp qp mp blocks frames (addK B.F (recMark ⟨xi, xs, xl, xn⟩ 5)) w W R' wx))
  case first =>
    go_region_law (first
      | (go_simp; go_at_call 74; refine (HAP.out _ (by repeat (first | exact Below.refl _ _ | apply below_drew1))).mono ?_; rintro e w3 ⟨rfl, R', hl⟩; have HL := Aside0.mk hl; clear hl))
    all_goals
      go_wp2_with fail
      go_meet
      exact ⟨rfl, rfl, R', HL⟩
  case rest =>
    obtain ⟨rfl, rfl, R1, HL1⟩ := hcut
    generalize wc = V1 at HL1 ⊢
    clear c0 hbl x0 x1 x2 x3 hxl HAP
    have nbp : ∀ {R' : Nat → Prop} {V : World} {F1 : FS}, LB R sp lp pp dp qp mp blocks frames F1 w W R' V → V.heap[bp]? = some (.cells #[.pointer (some ⟨sp, 0, none⟩), .map (some bm)] 61 (0, 0)) := fun hl => hl.k.at HH.out.box (fun hr => (HH.out.r bp hr).2.1 rfl)
    have HBP := Aside0.mk @nbp
    have hbB := nbp HL1.out
    clear nbp
    have c0 : V1.cell? ⟨bp, 0, none⟩ = some (.pointer (some ⟨sp, 0, none⟩)) := by simp [World.cell?, hbB]
    have hbl := heap_lt hbB
    clear hbB
    go_wp2_with fail
    refine (parts_calls _ sp lp pp dp qp mp blocks frames _ V1 HL1.out.f).mono ?_
    rintro e V2 ⟨rfl, hb2⟩
    have HL2 := Aside0.mk (HL1.out.below hb2)
    clear hb2 c0 hbl
    obtain ⟨cs, tv, htx, hput⟩ := FwM.txs HL2.out.f HOK.out.t.rise
    have HTX := Aside0.mk htx
    have HPT := Aside0.mk hput
    clear htx hput
    obtain ⟨x0, x1, x2, x3, _, _, _, _⟩ := tx_cells (HL2.out.at HXB.out hbxw)
    have hxl := heap_lt (HL2.out.at HXB.out hbxw)
    go_wp2_with fail
    refine (tnote_calls _ sp 8 118 cs tv B.F.ts B.F.most xi (B.F.S.l.last + 1) xn _ HTX.out HID.out).mono ?_
    rintro e V3 ⟨rfl, hpost⟩
    have HL3 := Aside0.mk (HL2.out.step (HPT.out _ _ _ (Int.le_refl _) hpost))
    clear hpost x0 x1 x2 x3 hxl HTX HPT
    have hr1 : Rising (kvT (tnote B.F.ts xi (B.F.S.l.last + 1) xn)) := by have := HMK.out.rise1; rw [HXX.out] at this; exact this
    have hh1 : thas (tnote B.F.ts xi (B.F.S.l.last + 1) xn) xi = true := by have := HMK.out.has1; rw [HXX.out] at this; exact this
    obtain ⟨cs, tv, htx, hput⟩ := FwM.txs HL3.out.f hr1
    have HTX := Aside0.mk htx
    have HPT := Aside0.mk hput
    have HH1 := Aside0.mk hh1
    clear htx hput hr1 hh1
    obtain ⟨x0, x1, x2, x3, _, _, _, _⟩ := tx_cells (HL3.out.at HXB.out hbxw)
    have hxl := heap_lt (HL3.out.at HXB.out hbxw)
    go_wp2_with fail
    refine (tstate_calls _ sp 8 118 cs tv (tnote B.F.ts xi (B.F.S.l.last + 1) xn) B.F.most xi 2 _ HTX.out HH1.out).mono ?_
    rintro e V4 ⟨rfl, hpost⟩
    have HL4 := Aside0.mk (HL3.out.step (HPT.out _ _ _ (Int.le_refl _) hpost))
    clear hpost x0 x1 x2 x3 hxl HTX HPT
    have HF4 := Aside0.mk (show FwPost R sp lp pp dp qp mp blocks frames (markF B.F xi 5 2) w V4 from by
      have h4 := HL4.out.post
      have e : markF B.F xi 5 2 = { B.F with S := addRec B.F.S (recMark ⟨xi, xs, xl, xn⟩ 5), ts := tstate (tnote B.F.ts xi (B.F.S.l.last + 1) xn) xi 2, kept := B.F.kept - 1 } := by
        unfold markF
        rw [HXX.out]
      rw [e]
      exact h4)
    have HI4 := Aside0.mk (BkIn.fwI HH.out HF4.out)
    have HS4 := Aside0.mk (SentsAll.kp HS.out HI4.out.2 HO.out)
    have HO4 := Aside0.mk (OutAll.gr (w' := V4) HO.out HS.out)
    have HUN := Aside0.mk (undo_calls a (Gr M w V4) (Gr R w V4) bp bm sp lp pp dp qp mp blocks frames { B with F := markF B.F xi 5 2 } sl xi 0 hint N m ch (updk kp xi 1) (ch xi) [] V4 HI4.out.1 HMK.out.ok HMK.out.has2 (by simp) rfl (updk_pos HKP.out xi) HM.out HFR.out HS4.out HO4.out HHB.out.1 HHB.out.2)
    obtain ⟨x0, x1, x2, x3, _, _, _, _⟩ := tx_cells (HL4.out.at HXB.out hbxw)
    have hxl := heap_lt (HL4.out.at HXB.out hbxw)
    go_wp2_with fail
    refine HUN.out.mono ?_
    rintro e V5 ⟨rfl, F2, hu, hp⟩
    have HU := Aside0.mk hu
    have HI5 := Aside0.mk (BkIn.fwI HI4.out.1 hp)
    clear hu hp x0 x1 x2 x3 hxl
    obtain ⟨hend, habr⟩ := abort_end2 HOK.out HOF.out HKP.out HMK.out HU.out
    have HEND := Aside0.mk hend
    have HABR := Aside0.mk habr
    clear hend habr
    obtain ⟨n0, D, hown, hn0, hat⟩ := HI5.out.1.map
    have HOWN := Aside0.mk hown
    have HAT := Aside0.mk hat
    have HN0 := Aside0.mk hn0
    have HWN2 := Aside0.mk (wf64 (n := n) (by have := HWF.out; omega) (by have := HWF.out; omega))
    obtain ⟨c0, c1⟩ := HI5.out.1.cells
    have hbl := heap_lt HI5.out.1.box
    clear hown hat hn0
    go_upto_region 14 with (first | (at_delete; refine wpList_delete_own _ rfl _ _ 59 3 rfl 148 (int_keyed Tryz.underlying3) Tryz.underlying59 _ bm n0 D rfl HOWN.out _ _ rfl (keyOf_int_mk Tryz.underlying3 HWN2.out) ?_; intro V6 hown6 hg6))
    have HS6 := Aside0.mk (sv_del HAT.out hown6 HN0.out)
    have HG6 := Aside0.mk hg6.grown
    clear hown6 hg6 c0 c1 hbl
    have HP6 := Aside0.mk (BkIn.put (w' := V6) (n := n) (id := xi) (t := 0) (v' := .slice none 0 0) (xs' := []) (nu := B.nu) HI5.out.1
      ⟨HG6.out.os, HG6.out.tape, HG6.out.output⟩ HG6.out.size (fun j hj hne2 _ => HG6.out.block j hj (fun e => hne2 (by injection e))) HS6.out (IS.nil _ _)
      (fun g hg => by simp [Value.ownBlock] at hg))
    obtain ⟨⟨R6, sl6, h6⟩, hk6⟩ := HP6.out
    have H6 := Aside0.mk h6
    have HK6 := Aside0.mk hk6
    clear h6 hk6 HP6
    have HM6 := Aside0.mk (show Kp M w V6 from HI4.out.2.transG (HI5.out.2.transG HK6.out))
    have HS7 := Aside0.mk (SentsAll.kp HS.out HM6.out HO.out)
    have HG0 := Aside0.mk (show ∀ j, Gr (Gr (Gr M w V4) V4 V5) V5 V6 j → Gr M w V6 j from fun j hj => Gr.trans (Nat.le_trans HI4.out.2.size HI5.out.2.size) HK6.out.size (by
      rcases hj with hj | hj
      · exact .inl (Gr.trans HI4.out.2.size HI5.out.2.size hj)
      · exact .inr hj))
    have HO7 := Aside0.mk (OutAll.sub (M' := R6) (OutAll.gr (w' := V6) HO.out HS.out) fun j hj => HG0.out j (H6.out.r j hj).1)
    have HLV := Aside0.mk (leave2_calls a R6 sp lp pp dp qp mp blocks frames F2 n xi V6 H6.out.f HS7.out HO7.out HWF.out.1 (by have := HWF.out; omega) (by
      have h1 := HU.out.same.2.2.2.2.1
      rw [h1]; exact HOF.out) HEND.out.has_ HEND.out.rise HEND.out.tid HEND.out.kept HEND.out.rec6 HEND.out.room)
    obtain ⟨c0, c1⟩ := H6.out.cells
    have hbl := heap_lt H6.out.box
    go_wp2_with fail
    refine HLV.out.mono ?_
    rintro e V7 ⟨rfl, hp7⟩
    have HP7 := Aside0.mk (H6.out.fw hp7)
    clear hp7 c0 c1 hbl
    go_wp2_with fail
    go_ret
    refine ⟨rfl, _, HABR.out, ?_⟩
    exact BkPost.trans ⟨⟨R6, sl6, H6.out.mono HG0.out⟩, HM6.out⟩ fun _ => ⟨BkM.mono HP7.out.1 fun j hj => by
      rcases hj with hj | hj
      · exact .inl (HG0.out j hj)
      · exact .inr hj, HP7.out.2.wide fun j hj => HG0.out j hj⟩
end Go.Proofs.YtaplpeoikebedaaGreatDoor.BackQ
namespace Go.Proofs.YtaplpeoikebedaaGreatDoor.FullD
open Go.RowKit See Mem Page PageB PageR PageL Disk DiskW RecD Dirty Wal WalF PoolG PoolS SysD SysM Fresh FlushG Pager StoreD PageM StoreF StoreG StoreH StoreI StoreJ StoreK StoreV StoreW LockT LockU BackD BackL BackA TwiceD
theorem place1 (k : Int) : placeOf k 1 = 1 := by
  have := placeOf_in k (show (1 : Int) ≤ 1 by omega)
  omega
theorem page_count {N m : Nat} {ch : Int → List Int} {kp : Int → Int} {F : FS} (h : FOk N m ch kp F) (hP : F.P = 1) {L : List Int} (hL : L.Nodup) (hv : ∀ j, (vals F j).isSome = true ↔ j ∈ L) : (cur F.S 1).2.length = L.length := by
  have hr : Rising (cur F.S 1).2 := PageV.rise (h.g.pg.curV (show (1 : Int) ≤ 1 by omega) (by omega))
  have hval : ∀ j, vals F j = val (cur F.S 1).2 j := fun j => by unfold vals; rw [hP, place1]
  have hk : ((cur F.S 1).2.map (·.1)).Nodup := by
    unfold List.Nodup
    rw [List.pairwise_map]
    exact hr.imp fun hab e => by omega
  have h1 := nodup_sub hk (b := L) fun x hx => by
    obtain ⟨e, he, rfl⟩ := List.mem_map.1 hx
    rw [← hv, hval, (val_some hr e.1 e.2).2 he]
    rfl
  have h2 := nodup_sub hL (b := (cur F.S 1).2.map (·.1)) fun x hx => by
    rw [← hv, hval] at hx
    obtain ⟨v, hv2⟩ := Option.isSome_iff_exists.1 hx
    exact List.mem_map.2 ⟨_, (val_some hr x v).1 hv2, rfl⟩
  rw [List.length_map] at h1 h2
  omega
def rng (a b : Nat) : List Int := (List.range (b - a)).map fun j => ((a + j : Nat) : Int)
theorem rng_nodup (a b : Nat) : (rng a b).Nodup := by
  unfold rng List.Nodup
  rw [List.pairwise_map]
  exact List.pairwise_lt_range.imp fun h e => by omega
theorem rng_len (a b : Nat) : (rng a b).length = b - a := by unfold rng; simp
theorem rng_mem (a b : Nat) (j : Int) : j ∈ rng a b ↔ (a : Int) ≤ j ∧ j < b := by
  unfold rng
  rw [List.mem_map]
  constructor
  · rintro ⟨x, hx, rfl⟩
    rw [List.mem_range] at hx
    omega
  · rintro ⟨h1, h2⟩
    exact ⟨j.toNat - a, List.mem_range.2 (by omega), by omega⟩
def own_ (a b : Nat) (j : Int) : Option Int := if (a : Int) ≤ j ∧ j < b then some j else none
theorem page_own {N m : Nat} {ch : Int → List Int} {kp : Int → Int} {F : FS} (h : FOk N m ch kp F) (hP : F.P = 1) {a b : Nat} (hv : ∀ j, vals F j = own_ a b j) : (cur F.S 1).2.length = b - a := by
  rw [page_count h hP (rng_nodup a b) fun j => by
    rw [hv, rng_mem]
    unfold own_
    split
    · rename_i q; simp [q]
    · rename_i q; simp [q], rng_len]
structure ASt (N m : Nat) (k : Nat) (F : FS) : Prop where
  ok : ∃ ch, FOk N m ch (fun _ => 2) F
  same : F.P = 1 ∧ F.sess = 3 ∧ F.most = 1 ∧ F.of 0 = 1 ∧ F.of 1 = 0 ∧ F.of 2 = 0 ∧ F.S.frames = 1
  free : F.free = 357 - 2 * k
  has_ : thas F.ts 1 = true
  kok : KOk (fun _ => 0) F.ks
  kl : F.ks.length ≤ k
  kr : ∀ x ∈ F.ks, x.key < k
  val_ : ∀ j, vals F j = own_ 0 k j
theorem beg1 {N : Nat} (hN : N = (1 + 1 + 60 : Int).toNat) : FOk N 0 (updc (fun _ => []) 1 []) (fun _ => 2) (beginF (newF 1 60 1 3) 0) := by
  rw [hN]
  exact begin_ok (n := 0) (new_ok (P := 1) (blocks := 60) (frames := 1) (sess := 3) 0 (by omega) (by omega) (by omega)) rfl (by decide) (by decide) rfl (by decide) (by decide)
theorem a_start : ASt (1 + 1 + 60 : Int).toNat 0 0 (beginF (newF 1 60 1 3) 0) := by
  refine ⟨⟨_, beg1 rfl⟩, ⟨rfl, rfl, by decide, by decide, by decide, by decide, rfl⟩, by decide, by decide, KOk.nil _, Nat.le_refl _, fun x hx => (List.not_mem_nil hx).elim, fun j => ?_⟩
  have hcur : cur (beginF (newF 1 60 1 3) 0).S (placeOf j 1) = (0, []) := by
    rw [place1]
    show cur (addRec _ _) _ = _
    rw [addRec_cur]
    exact cur_new (by omega) (by omega)
  unfold vals own_
  rw [show (beginF (newF 1 60 1 3) 0).P = 1 from rfl, hcur, if_neg (by omega)]
  rfl
theorem take_keys {ks : List Lk} {s key md : Int} {x : Lk} (hx : x ∈ takeL ks s key md) : x.key = key ∨ ∃ y ∈ ks, y.key = x.key := by
  unfold takeL at hx
  split at hx
  · rcases List.mem_append.1 hx with hx | hx
    · exact .inr ⟨x, hx, rfl⟩
    · rw [List.mem_singleton] at hx; rw [hx]; exact .inl rfl
  · obtain ⟨j, hj⟩ := List.mem_iff_getElem?.1 hx
    rw [List.getElem?_modify] at hj
    obtain ⟨y, hy, e⟩ := Option.map_eq_some_iff.1 hj
    refine .inr ⟨y, List.mem_of_getElem? hy, ?_⟩
    rw [← e]
    split <;> rfl
theorem a_put {N m k : Nat} {F : FS} (h : ASt N m k F) (hk : k < 20) : ∃ F', putR F 0 k k 0 = (F', 0, false, none) ∧ ASt N (m + 1) (k + 1) F' := by
  obtain ⟨ch, hok⟩ := h.ok
  obtain ⟨s1, s2, s3, s4, s5, s6, s7⟩ := h.same
  have hv0 : vals F k = none := by rw [h.val_]; unfold own_; rw [if_neg (by omega)]
  obtain ⟨t1, t2, t3, t4, t5, t6, t7, t8, t9⟩ := takes_ok (key := (k : Int)) (n := 0) hok h.kok rfl ⟨by omega, by omega⟩ 0
  have hp1 : (takesF F 0 k 2 0).P = 1 := s1
  have hlen := page_own t2 hp1 (fun j => (t4 j).trans (h.val_ j))
  have hrise : Rising (cur (takesF F 0 k 2 0).S 1).2 := PageV.rise (t2.g.pg.curV (show (1 : Int) ≤ 1 by omega) (by rw [hp1]; omega))
  have hmore : moreL (takesF F 0 k 2 0) k = [] := by
    rw [List.eq_nil_iff_forall_not_mem]
    intro x hx
    unfold moreL at hx
    rw [List.mem_filter] at hx
    obtain ⟨q1, q2⟩ := hx
    simp only [Bool.and_eq_true, Bool.not_eq_true', bne_iff_ne, beq_iff_eq] at q2
    obtain ⟨q2, q3, _⟩ := q2
    rw [t3.held] at q1
    obtain ⟨y, hy, rfl⟩ := List.mem_map.1 q1
    rcases take_keys hy with e | ⟨z, hz, e⟩
    · exact q3 e
    · have h1 := h.kr z hz
      have h2 := (h.kok.rng z hz).1
      have h3 : vals (takesF F 0 k 2 0) y.key = some y.key := by rw [t4, h.val_]; unfold own_; rw [if_pos (by omega)]
      rw [hp1, place1, has_val hrise] at q2
      unfold vals at h3
      rw [hp1, place1] at h3
      rw [h3] at q2
      cases q2
  obtain ⟨F', e1, e2, e3, e4⟩ := chg_put (n := 0) (key := (k : Int)) (v := (k : Int)) (hint := 0) hok h.kok rfl (by rw [s4]; exact h.has_) ⟨by omega, by omega⟩ ⟨by omega, by omega⟩ (by rw [h.free]; omega) (.inr (by
    unfold fullB
    rw [hmore, hp1, place1, hlen]
    simp
    omega))
  rw [hv0] at e1
  rw [s4] at e2
  obtain ⟨q1, q2, q3, q4, q5, q6⟩ := e2.same
  refine ⟨F', e1, ⟨⟨_, e2.ok⟩, ⟨q1.trans s1, q2.trans s2, q3.trans s3, by rw [q4, s4], by rw [q4, s5], by rw [q4, s6], q6.trans s7⟩, by rw [q5, h.free]; push_cast; omega, e2.has_, e3, by rw [e4]; have := len_takeL F.ks 0 k 2; have := h.kl; omega, fun x hx => ?_, fun j => ?_⟩⟩
  · rw [e4] at hx
    rcases take_keys hx with e | ⟨z, hz, e⟩
    · rw [e]; push_cast; omega
    · have := h.kr z hz; rw [← e]; push_cast; omega
  · rw [e2.vals_, h.val_]
    unfold own_
    by_cases e : j = k
    · rw [if_pos e, if_pos (by push_cast; omega), e]
    · rw [if_neg e]
      by_cases e2 : (0 : Int) ≤ j ∧ j < k
      · rw [if_pos (by omega), if_pos (by push_cast; omega)]
      · rw [if_neg (by omega), if_neg (by push_cast; omega)]
theorem a_full {N m : Nat} {F : FS} (h : ASt N m 20 F) : putR F 0 99 1 0 = (takesF F 0 99 2 0, 0, false, some 9) := by
  obtain ⟨ch, hok⟩ := h.ok
  obtain ⟨s1, s2, s3, s4, s5, s6, s7⟩ := h.same
  have hv0 : vals F 99 = none := by rw [h.val_]; unfold own_; rw [if_neg (by omega)]
  obtain ⟨v1, v2⟩ := page_vals hok 99
  obtain ⟨t1, t2, t3, t4, t5, t6, t7, t8, t9⟩ := takes_ok (key := 99) (n := 0) hok h.kok rfl ⟨by omega, by omega⟩ 0
  have hp1 : (takesF F 0 99 2 0).P = 1 := s1
  have hlen := page_own t2 hp1 (fun j => (t4 j).trans (h.val_ j))
  unfold putR
  rw [v1, hv0, if_pos ⟨rfl, by unfold fullB; rw [hp1, place1, hlen]; simp⟩]
def ownB (key : Int) : Int := if 200 ≤ key then 2 else 1
def kpB : Int → Int := updk (fun _ => 2) 1 1
structure BSt2 (N m k : Nat) (F : FS) : Prop where
  ok : ∃ ch, FOk N m ch kpB F ∧ ch 3 = [] ∧ (ch 2).length = k ∧ ∀ j, rewV F.S.l (ch 2) (vals F) j = own_ 0 20 j
  same : F.P = 1 ∧ F.sess = 3 ∧ F.most = 3 ∧ F.of 1 = 2 ∧ F.of 2 = 3 ∧ F.S.frames = 1
  free : 311 - 2 * (k : Int) ≤ F.free
  kok : KOk ownB F.ks
  kl : F.ks.length ≤ 2 * k
  held : ∀ j : Int, 0 ≤ j → j < k → ∃ x ∈ F.ks, x.mode = 2 ∧ x.key = j
  val_ : ∀ j, vals F j = own_ k 20 j
theorem BSt2.has_ {N m k : Nat} {F : FS} (h : BSt2 N m k F) : thas F.ts (F.of 1) = true ∧ thas F.ts (F.of 2) = true := by
  obtain ⟨ch, hok, _⟩ := h.ok
  obtain ⟨s1, s2, s3, s4, s5, s6⟩ := h.same
  exact ⟨(hok.t.ofs 1 (by rw [s4]; decide)).2.2, (hok.t.ofs 2 (by rw [s5]; decide)).2.2⟩
theorem vals_flush {N m : Nat} {ch : Int → List Int} {kp : Int → Int} {F : FS} (h : FOk N m ch kp F) (j : Int) : vals (flushF F) j = vals F j := by
  obtain ⟨_, _, _, f4⟩ := flush_ok h
  exact vals_to h.g.pg.pages f4 j
theorem commit_all {N m : Nat} {ch : Int → List Int} {F : FS} {n id : Int} (h : FOk N m ch (fun _ => 2) F) (hid : thas F.ts id = true) (hof : F.of n = id) :
    CommitOk N m ch (fun _ => 2) F n id ∧ (∀ j, vals (commitF F n id ((ch id).length : Int)) j = vals F j) ∧ (commitF F n id ((ch id).length : Int)).ks = freeL F.ks n ∧ (commitF F n id ((ch id).length : Int)).of = upd F.of n 0 ∧ F.free ≤ (commitF F n id ((ch id).length : Int)).free ∧ (commitF F n id ((ch id).length : Int)).P = F.P ∧ (commitF F n id ((ch id).length : Int)).sess = F.sess ∧ (commitF F n id ((ch id).length : Int)).most = F.most ∧ (commitF F n id ((ch id).length : Int)).S.frames = F.S.frames := by
  have hc := commit_ok (n := n) h hid hof rfl (fun _ => by decide)
  refine ⟨hc, fun j => ?_, rfl, rfl, ?_, rfl, rfl, rfl, rfl⟩
  · have h1 : vals (commitF F n id ((ch id).length : Int)) j = vals (flushF (markF F id 4 1)) j := rfl
    rw [h1, vals_flush hc.ok1]
    rfl
  · show F.free ≤ F.free + _
    omega
theorem b_start {N m : Nat} {F : FS} (h : ASt N m 20 F) : ∃ ch, FOk N (m + 1) ch (fun _ => 2) (takesF F 0 99 2 0) ∧ (∀ x ∈ (takesF F 0 99 2 0).ks, x.s = 0) ∧ thas (takesF F 0 99 2 0).ts 1 = true ∧ (takesF F 0 99 2 0).of 0 = 1 ∧
    BSt2 N (m + 1) 0 (beginF (beginF (commitF (takesF F 0 99 2 0) 0 1 ((ch 1).length : Int)) 1) 2) ∧ 6 ≤ (commitF (takesF F 0 99 2 0) 0 1 ((ch 1).length : Int)).free ∧ FOk N (m + 1) ch kpB (commitF (takesF F 0 99 2 0) 0 1 ((ch 1).length : Int)) ∧ FOk N (m + 1) (updc ch 2 []) kpB (beginF (commitF (takesF F 0 99 2 0) 0 1 ((ch 1).length : Int)) 1) := by
  obtain ⟨ch, hok⟩ := h.ok
  obtain ⟨s1, s2, s3, s4, s5, s6, s7⟩ := h.same
  obtain ⟨t1, t2, t3, t4, t5, t6, t7, t8, t9⟩ := takes_ok (key := 99) (n := 0) hok h.kok rfl ⟨by omega, by omega⟩ 0
  obtain ⟨q1, q2⟩ := takes_same hok 0 99 2 0
  have hid : thas (takesF F 0 99 2 0).ts 1 = true := h.has_
  have hof : (takesF F 0 99 2 0).of 0 = 1 := s4
  obtain ⟨c0, c1, c2, c3, c4, c5, c6, c7, c8⟩ := commit_all (n := 0) t2 hid hof
  obtain ⟨C, hC⟩ : ∃ C, commitF (takesF F 0 99 2 0) 0 1 ((ch 1).length : Int) = C := ⟨_, rfl⟩
  have hC3 := c0.ok3
  rw [hC] at c1 c2 c3 c4 c5 c6 c7 c8 hC3
  have hfree : (takesF F 0 99 2 0).free = 317 := by show F.free = _; rw [h.free]; omega
  have hall : ∀ x ∈ (takesF F 0 99 2 0).ks, x.s = 0 := fun x hx => (t3.own x hx).symm
  have hks : C.ks = [] := by
    rw [c2]
    unfold freeL
    rw [List.filter_eq_nil_iff]
    intro x hx
    simp [hall x hx]
  have hm : C.most = 1 := by rw [c7]; exact s3
  have hse : C.sess = 3 := by rw [c6]; exact s2
  have ho : ∀ t, C.of t = upd F.of 0 0 t := fun t => by rw [c3]; rfl
  have hb1 := begin_ok (n := 1) hC3 (by rw [hm]; rfl) (by decide) (by rw [hse]; decide) (by rw [ho]; unfold upd; rw [if_neg (by decide)]; exact s5) (by omega) (by rw [hm]; decide)
  rw [hm] at hb1
  obtain ⟨D, hD⟩ : ∃ D, beginF C 1 = D := ⟨_, rfl⟩
  have hDm : D.most = 2 := by rw [← hD]; show C.most + 1 = 2; omega
  have hDo : ∀ t, D.of t = upd C.of 1 2 t := fun t => by rw [← hD]; show upd C.of 1 (C.most + 1) t = _; rw [hm]; rfl
  have hDf : D.free = C.free - 3 := by rw [← hD]; rfl
  have hDs : D.sess = 3 := by rw [← hD]; exact hse
  have hb1' := hb1
  rw [hD] at hb1'
  have hb2 := begin_ok (n := 2) hb1' (by rw [hDm]; rfl) (by decide) (by rw [hDs]; decide) (by rw [hDo]; unfold upd; rw [if_neg (by decide), ho]; unfold upd; rw [if_neg (by decide)]; exact s6) (by omega) (by rw [hDm]; decide)
  rw [hDm] at hb2
  refine ⟨ch, t2, hall, hid, hof, ?_, by rw [hC]; omega, by rw [hC]; exact hC3, by rw [hC]; exact hb1⟩
  rw [hC, hD]
  have hvals : ∀ j, vals (beginF D 2) j = own_ 0 20 j := fun j => by
    have e1 : vals (beginF D 2) j = vals D j := rfl
    have e2 : vals D j = vals C j := by rw [← hD]; rfl
    rw [e1, e2, c1, t4, h.val_]
  refine ⟨⟨_, hb2, ?_, ?_, fun j => ?_⟩, ⟨?_, ?_, ?_, ?_, ?_, ?_⟩, ?_, ?_, ?_, fun j hj0 hj1 => by omega, hvals⟩
  · unfold updc; rw [if_pos (by decide)]
  · unfold updc; rw [if_neg (by decide), if_pos (by decide)]; rfl
  · have e : updc (updc ch (1 + 1) []) (2 + 1) [] 2 = [] := by unfold updc; rw [if_neg (by decide), if_pos (by decide)]
    rw [e]
    exact hvals j
  · show D.P = 1; rw [← hD]; show C.P = 1; rw [c5]; exact s1
  · show D.sess = 3; exact hDs
  · show D.most + 1 = 3; omega
  · show upd D.of 2 (D.most + 1) 1 = 2
    unfold upd
    rw [if_neg (by decide), hDo]
    unfold upd
    rw [if_pos rfl]
  · show upd D.of 2 (D.most + 1) 2 = 3
    unfold upd
    rw [if_pos rfl, hDm]
    rfl
  · show D.S.frames = 1; rw [← hD]; show C.S.frames = 1; rw [c8, q2]; exact s7
  · show _ ≤ D.free - 3
    rw [hDf]; omega
  · show KOk ownB D.ks
    rw [← hD]
    show KOk ownB C.ks
    rw [hks]
    exact KOk.nil _
  · show D.ks.length ≤ _
    rw [← hD]
    show C.ks.length ≤ _
    rw [hks]
    exact Nat.le_refl _
theorem b_del {N m k : Nat} {F : FS} (h : BSt2 N m k F) (hk : k < 20) :
    ∃ ch F', FOk N m ch kpB F ∧ delR F 1 k 0 = (F', (k : Int), true, none) ∧ ChgR N m ch kpB F 2 k none F' ∧ KOk ownB F'.ks ∧ F'.ks = takeL F.ks 1 k 2 ∧
    ∃ ch', FOk N (m + 1) ch' kpB F' ∧ ch' 3 = [] ∧ (ch' 2).length = k + 1 ∧ ∀ j, rewV F'.S.l (ch' 2) (vals F') j = own_ 0 20 j := by
  obtain ⟨ch, hok, c3, c2, cr⟩ := h.ok
  obtain ⟨s1, s2, s3, s4, s5, s6⟩ := h.same
  have hv : vals F k = some (k : Int) := by rw [h.val_]; unfold own_; rw [if_pos (by omega)]
  obtain ⟨F', e1, e2, e3, e4⟩ := chg_del (n := 1) (key := (k : Int)) (hint := 0) hok h.kok (by unfold ownB; rw [if_neg (by omega)]) h.has_.1 ⟨by omega, by omega⟩ (by have := h.free; omega) (by rw [hv]; rfl)
  rw [hv] at e1
  rw [s4] at e2
  refine ⟨ch, F', hok, e1, e2, e3, e4, _, e2.ok, ?_, ?_, fun j => ?_⟩
  · unfold updc; rw [if_neg (by decide)]; exact c3
  · unfold updc; rw [if_pos rfl, List.length_cons, c2]
  · have e : updc ch 2 ((F.S.l.last + 1) :: ch 2) 2 = (F.S.l.last + 1) :: ch 2 := by unfold updc; rw [if_pos rfl]
    rw [e]
    show rewV F'.S.l (ch 2) (undoV F'.S.l (F.S.l.last + 1) (vals F')) j = _
    rw [e2.rew, rewV_keep e2.old _ _ fun k hk => ?_]
    · exact cr j
    · have hid := h.has_.1
      rw [s4] at hid
      obtain ⟨hx, hxid⟩ := tget_mem hid
      obtain ⟨_, r, hr, _⟩ := (hok.c.last _ hx).1.at_ k (by rw [hxid]; exact hk)
      exact ⟨r, hr⟩
theorem b_full {N m k : Nat} {F F' : FS} {ch ch' : Int → List Int} (h : BSt2 N m k F) (hk : k < 20) (hc : ChgR N m ch kpB F 2 k none F') (hks : KOk ownB F'.ks) (hkt : F'.ks = takeL F.ks 1 k 2) (hok : FOk N (m + 1) ch' kpB F') (h3 : ch' 3 = []) (h2 : (ch' 2).length = k + 1) (hr : ∀ j, rewV F'.S.l (ch' 2) (vals F') j = own_ 0 20 j) :
    putR F' 2 (200 + (k : Int)) 7 0 = (takesF F' 2 (200 + (k : Int)) 2 0, 0, false, some 9) ∧ BSt2 N (m + 1 + 1) (k + 1) (takesF F' 2 (200 + (k : Int)) 2 0) := by
  obtain ⟨s1, s2, s3, s4, s5, s6⟩ := h.same
  obtain ⟨q1, q2, q3, q4, q5, q6⟩ := hc.same
  have hval : ∀ j, vals F' j = own_ (k + 1) 20 j := fun j => by
    rw [hc.vals_, h.val_]
    unfold own_
    by_cases e : j = k
    · rw [if_pos e, if_neg (by push_cast; omega)]
    · rw [if_neg e]
      by_cases e2 : (k : Int) ≤ j ∧ j < 20
      · rw [if_pos (by omega), if_pos (by push_cast; omega)]
      · rw [if_neg (by omega), if_neg (by push_cast; omega)]
  have hP : F'.P = 1 := q1.trans s1
  have hheld : ∀ j : Int, 0 ≤ j → j < k + 1 → ∃ x ∈ F'.ks, x.mode = 2 ∧ x.key = j := fun j hj0 hj1 => by
    rw [hkt]
    by_cases e : j = k
    · obtain ⟨_, _, ⟨x, x1, x2, x3, _⟩, _⟩ := h.kok.take (s := 1) (key := (k : Int)) (by unfold ownB; rw [if_neg (by omega)]) ⟨by omega, by omega⟩
      exact ⟨x, x1, x2, by rw [x3, e]⟩
    · obtain ⟨x, x1, x2, x3⟩ := h.held j hj0 (by omega)
      exact ⟨x, mem_takeL (by omega) x1 x2, x2, x3⟩
  have how : ownB (200 + (k : Int)) = 2 := by unfold ownB; rw [if_pos (by omega)]
  obtain ⟨t1, t2, t3, t4, t5, t6, t7, t8, t9⟩ := takes_ok (key := 200 + (k : Int)) (n := 2) hok hks how ⟨by omega, by omega⟩ 0
  obtain ⟨r1, r2⟩ := takes_same hok 2 (200 + (k : Int)) 2 0
  have hp1 : (takesF F' 2 (200 + (k : Int)) 2 0).P = 1 := hP
  have hval2 : ∀ j, vals (takesF F' 2 (200 + (k : Int)) 2 0) j = own_ (k + 1) 20 j := fun j => (t4 j).trans (hval j)
  have hlen := page_own t2 hp1 hval2
  have hrise : Rising (cur (takesF F' 2 (200 + (k : Int)) 2 0).S 1).2 := PageV.rise (t2.g.pg.curV (show (1 : Int) ≤ 1 by omega) (by rw [hp1]; omega))
  have hmore : k + 1 ≤ (moreL (takesF F' 2 (200 + (k : Int)) 2 0) (200 + (k : Int))).length := by
    have := nodup_sub (rng_nodup 0 (k + 1)) (b := moreL (takesF F' 2 (200 + (k : Int)) 2 0) (200 + (k : Int))) fun x hx => by
      rw [rng_mem] at hx
      obtain ⟨y, y1, y2, y3⟩ := hheld x (by omega) (by push_cast at hx; omega)
      unfold moreL
      rw [List.mem_filter, hp1, place1, place1]
      refine ⟨?_, ?_⟩
      · unfold heldL
        exact List.mem_map.2 ⟨y, List.mem_filter.2 ⟨mem_takeL (by omega) y1 y2, by simp [y2]⟩, y3⟩
      · have hv : val (cur (takesF F' 2 (200 + (k : Int)) 2 0).S 1).2 x = none := by
          have := hval2 x
          unfold vals at this
          rw [hp1, place1] at this
          rw [this]
          unfold own_
          rw [if_neg (by push_cast at hx ⊢; omega)]
        have hh : has (cur (takesF F' 2 (200 + (k : Int)) 2 0).S 1).2 x = false := by rw [has_val hrise, hv]; rfl
        rw [hh]
        simp
        push_cast at hx
        omega
    rw [rng_len] at this
    omega
  obtain ⟨v1, v2⟩ := page_vals hok (200 + (k : Int))
  have hv0 : vals F' (200 + (k : Int)) = none := by rw [hval]; unfold own_; rw [if_neg (by omega)]
  refine ⟨?_, ⟨⟨ch', t2, h3, h2, fun j => ?_⟩, ⟨hP, q2.trans s2, q3.trans s3, by show F'.of 1 = 2; rw [q4]; exact s4, by show F'.of 2 = 3; rw [q4]; exact s5, by rw [r2, q6]; exact s6⟩, ?_, t3, ?_, fun j hj0 hj1 => ?_, hval2⟩⟩
  · unfold putR
    rw [v1, hv0, if_pos ⟨rfl, by unfold fullB; rw [hp1, place1, hlen]; simp; omega⟩]
  · have e : vals (takesF F' 2 (200 + (k : Int)) 2 0) = vals F' := funext t4
    rw [e]
    have hid : thas F'.ts 2 = true := hc.has_
    obtain ⟨hx, hxid⟩ := tget_mem hid
    rw [rewV_keep (L := F'.S.l) (fun n r hn => by rw [r1]; exact hn) _ _ fun k hk => by
      obtain ⟨_, r, hr, _⟩ := (hok.c.last _ hx).1.at_ k (by rw [hxid]; exact hk)
      exact ⟨r, hr⟩]
    exact hr j
  · show _ ≤ F'.free
    rw [q5]
    have := h.free
    push_cast
    omega
  · have h4 : (takesF F' 2 (200 + (k : Int)) 2 0).ks.length ≤ F'.ks.length + 1 := t9
    have h5 : F'.ks.length ≤ F.ks.length + 1 := by rw [hkt]; exact len_takeL _ _ _ _
    have := h.kl
    omega
  · obtain ⟨x, x1, x2, x3⟩ := hheld j hj0 (by push_cast at hj1; omega)
    exact ⟨x, mem_takeL (by omega) x1 x2, x2, x3⟩
end Go.Proofs.YtaplpeoikebedaaGreatDoor.FullD
namespace Go.Proofs.YtaplpeoikebedaaGreatDoor.FullE
open Go.RowKit See Mem Page PageB PageR PageL Disk DiskW RecD Dirty Wal WalF PoolG PoolS SysD SysM Fresh FlushG Pager StoreD PageM StoreF StoreG StoreH StoreI StoreJ StoreK StoreV StoreW LockT LockU BackD BackL BackA BackQ TwiceD FullD
theorem kpB_pos : ∀ x, 0 ≤ kpB x := updk_pos (fun _ => by decide) 1
theorem kpB2 : kpB 3 = 2 := by decide
structure CSt (N m : Nat) (ch : Int → List Int) (kp : Int → Int) (k : Nat) (F : FS) : Prop where
  ok : FOk N m ch kp F
  len : (ch 2).length = k
  kp2 : kp 2 = 2
  pos : ∀ x, 0 ≤ kp x
  rew : ∀ j, rewV F.S.l (ch 2) (vals F) j = own_ 0 20 j
  same : F.P = 1 ∧ F.sess = 3 ∧ F.of 1 = 2 ∧ F.S.frames = 1
  has_ : thas F.ts 2 = true
theorem c_of {N m k : Nat} {F : FS} (h : BSt2 N m k F) : ∃ ch, CSt N m ch kpB k F ∧ ch 3 = [] ∧ thas F.ts 3 = true ∧ F.of 2 = 3 := by
  obtain ⟨ch, hok, c3, c2, cr⟩ := h.ok
  obtain ⟨s1, s2, s3, s4, s5, s6⟩ := h.same
  obtain ⟨h1, h2⟩ := h.has_
  rw [s4] at h1
  rw [s5] at h2
  exact ⟨ch, ⟨hok, c2, by decide, kpB_pos, cr, ⟨s1, s2, s4, s6⟩, h1⟩, c3, h2, s5⟩
theorem c_two {N m k : Nat} {F F' : FS} {ch : Int → List Int} (h : CSt N m ch kpB k F) (h3 : ch 3 = []) (ha : AbortQ N m ch kpB F 2 3 F') : CSt N m (updc ch 3 []) (updk kpB 3 1) k F' := by
  obtain ⟨s1, s2, s3, s4⟩ := h.same
  obtain ⟨q1, q2, q3, q4, q5, q6, q7⟩ := ha.same
  have hok := ha.ok
  rw [h3] at hok
  have hc2 : updc ch 3 [] 2 = ch 2 := by unfold updc; rw [if_neg (by decide)]
  have hof : F'.of 1 = 2 := by rw [q5]; unfold upd; rw [if_neg (by decide)]; exact s3
  have hv : vals F' = vals F := funext fun j => by
    rw [ha.vals_ j, h3]
    rfl
  refine ⟨hok, by rw [hc2]; exact h.len, by unfold updk; rw [if_neg (by decide)]; exact h.kp2, updk_pos kpB_pos 3, fun j => ?_, ⟨q1.trans s1, q2.trans s2, hof, q7.trans s4⟩, ?_⟩
  · rw [hc2, hv, rewV_keep ha.old _ _ fun n hn => ?_]
    · exact h.rew j
    · obtain ⟨hx, hxid⟩ := tget_mem h.has_
      obtain ⟨_, r, hr, _⟩ := (h.ok.c.last _ hx).1.at_ n (by rw [hxid]; exact hn)
      exact ⟨r, hr⟩
  · have := (hok.t.ofs 1 (by rw [hof]; decide)).2.2
    rw [hof] at this
    exact this
structure DSt (F : FS) : Prop where
  pg : ∃ N, PgOk N 1 F.S
  few : (cur F.S 1).2.length = 20
  rise : Rising (cur F.S 1).2
  val_ : ∀ j, val (cur F.S 1).2 j = own_ 0 20 j
  loose : LooseLe F.S.d 40000
theorem c_one {N m k : Nat} {F F' : FS} {ch : Int → List Int} {kp : Int → Int} (h : CSt N m ch kp k F) (hm : m + k ≤ 30000) (ha : AbortQ N m ch kp F 1 2 F') : DSt F' := by
  obtain ⟨s1, s2, s3, s4⟩ := h.same
  obtain ⟨q1, q2, q3, q4, q5, q6, q7⟩ := ha.same
  have hP : F'.P = 1 := q1.trans s1
  have hv : ∀ j, vals F' j = own_ 0 20 j := fun j => by rw [ha.vals_ j]; exact h.rew j
  have hp := ha.ok.g.pg
  rw [hP] at hp
  refine ⟨⟨N, hp⟩, page_own ha.ok hP hv, PageV.rise (ha.ok.g.pg.curV (show (1 : Int) ≤ 1 by omega) (by rw [hP]; omega)), fun j => ?_, ha.ok.g.loose.mono (by rw [h.len]; omega)⟩
  rw [← hv]
  unfold vals
  rw [hP, place1]
end Go.Proofs.YtaplpeoikebedaaGreatDoor.FullE
