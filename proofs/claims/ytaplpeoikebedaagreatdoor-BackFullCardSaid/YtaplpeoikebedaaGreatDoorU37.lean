/- Joined texts: BackA, BackB, HeldT. No condition but what each says. -/
import Derived.Test.YtaplpeoikebedaaGreatDoorU33
import Derived.Test.YtaplpeoikebedaaGreatDoorU36
import Derived.Test.YtaplpeoikebedaaGreatDoorU34
import Derived.Test.YtaplpeoikebedaaGreatDoorU25
set_option maxHeartbeats 8000000
set_option maxRecDepth 100000
set_option linter.unusedVariables false
set_option linter.unusedSimpArgs false
namespace Go.Proofs.YtaplpeoikebedaaGreatDoor.BackA
open Go.RowKit See Mem RecD Dirty Wal WalF PoolG PoolS SysD SysM FlushG Pager StoreD PageM StoreF StoreG StoreH StoreI StoreJ StoreK BackD BackL FwdL
theorem updk_pos {kp : Int → Int} (h : ∀ x, 0 ≤ kp x) (id : Int) : ∀ x, 0 ≤ updk kp id 1 x := fun x => by
  unfold updk
  by_cases e : x = id
  · rw [if_pos e]; omega
  · rw [if_neg e]; exact h x
structure MarkIn (N m : Nat) (ch : Int → List Int) (kp : Int → Int) (F : FS) (id : Int) : Prop where
  kept : 1 ≤ F.kept
  room : 1 ≤ F.S.l.room
  rec5 : recOk (recMark (tget F.ts id) 5) = true
  rise1 : Rising (kvT (tnote F.ts id (F.S.l.last + 1) (tget F.ts id).next))
  has1 : thas (tnote F.ts id (F.S.l.last + 1) (tget F.ts id).next) id = true
  ok : FOk N m ch (updk kp id 1) (markF F id 5 2)
  has2 : thas (markF F id 5 2).ts id = true
  vals_ : ∀ j, vals (markF F id 5 2) j = vals F j
  old : ∀ n r, recOf F.S.l n = some r → recOf (markF F id 5 2).S.l n = some r
theorem mark_in {N m : Nat} {ch : Int → List Int} {kp : Int → Int} {F : FS} {id : Int} (h : FOk N m ch kp F) (hid : thas F.ts id = true) (hkp : kp id = 2) (hpos : ∀ x, 0 ≤ kp x) : MarkIn N m ch kp F id := by
  obtain ⟨ro1, ro2, ro3⟩ := h.g.room
  have hk := kept_ge h hid hpos
  rw [hkp] at hk
  have hroom : 1 ≤ F.S.l.room := by omega
  obtain ⟨m1, m2⟩ := mark_ok (kind := 5) (st := 2) h hid (.inr rfl) hkp hroom (by omega)
  have hr1 := tnote_rise (id := id) (l := F.S.l.last + 1) (n := (tget F.ts id).next) h.t.rise
  have hh1 : thas (tnote F.ts id (F.S.l.last + 1) (tget F.ts id).next) id = true := by
    rw [thas_ids hr1, ids_tnote, ← thas_ids h.t.rise]; exact hid
  refine ⟨by omega, hroom, m1, hr1, hh1, m2, ?_, fun j => rfl, fun n r hn => addRec_rec hn⟩
  show thas (tstate (tnote F.ts id (F.S.l.last + 1) (tget F.ts id).next) id 2) id = true
  rw [thas_ids (tstate_rise hr1), ids_tstate, ← thas_ids hr1]; exact hh1
structure AbortR (N m : Nat) (ch : Int → List Int) (kp : Int → Int) (F : FS) (n id : Int) (F' : FS) : Prop where
  ok : FOk N (m + (ch id).length) (updc ch id []) (updk kp id 1) F'
  vals_ : ∀ j, vals F' j = rewV F.S.l (ch id) (vals F) j
  same : F'.P = F.P ∧ F'.sess = F.sess ∧ F'.ks = [] ∧ F'.most = F.most ∧ F'.of = upd F.of n 0 ∧ F'.free = F.free ∧ F'.S.frames = F.S.frames
structure EndIn (F : FS) (id : Int) : Prop where
  has_ : thas F.ts id = true
  rise : Rising (kvT F.ts)
  tid : (tget F.ts id).id = id
  kept : 1 ≤ F.kept ∧ F.kept ≤ 1073741824
  rec6 : recOk (recMark (tget F.ts id) 6) = true
  room : 1 ≤ F.S.l.room
theorem abort_end {N m : Nat} {ch : Int → List Int} {kp : Int → Int} {F F2 : FS} {n id : Int} (h : FOk N m ch kp F) (hof : F.of n = id) (hpos : ∀ x, 0 ≤ kp x) (hall : ∀ x ∈ F.ks, x.s = n) (hm : MarkIn N m ch kp F id) (hu : UndoR N m ch (updk kp id 1) (markF F id 5 2) id (ch id) [] F2) :
    EndIn F2 id ∧ AbortR N m ch kp F n id (leaveF F2 n id) := by
  obtain ⟨s1, s2, s3, s4, s5, s6, s7⟩ := hu.same
  have hof2 : F2.of n = id := by rw [s5]; exact hof
  obtain ⟨e1, e2, e3, e4⟩ := end_ok (n := n) hu.ok hu.has_ hof2 (by unfold updk; rw [if_pos rfl]) (updk_pos hpos id)
  have hc : updc ch id [] id = [] := by unfold updc; rw [if_pos rfl]
  rw [hc] at e2 e4
  have hk2 : F2.ks = F.ks := s3
  have hfr : freeL F2.ks n = [] := by
    unfold freeL
    rw [List.filter_eq_nil_iff]
    intro x hx
    rw [hk2] at hx
    simp [hall x hx]
  have hroom := hu.ok.g.room
  have hlr : F2.S.l.room ≤ 1073741824 := by unfold Lg.room; have := hu.ok.g.lok.base; unfold Lg.last; omega
  have hE : endF F2 n id ((([] : List Int).length : Nat) : Int) = leaveF F2 n id := by
    unfold endF leaveF
    rw [hfr]
    simp
  rw [hE] at e4
  refine ⟨⟨hu.has_, hu.ok.t.rise, (tget_mem hu.has_).2, ⟨by simp at e2; omega, by omega⟩, e1, e3⟩, ⟨e4, fun j => ?_, ⟨s1, s2, rfl, s4, ?_, s6, s7⟩⟩⟩
  · show vals F2 j = _
    rw [hu.vals_ j]
    have hkeep := rewV_keep (L := F.S.l) (L' := (markF F id 5 2).S.l) hm.old (ch id) (vals (markF F id 5 2)) (fun k hk => by
      obtain ⟨hx, hxid⟩ := tget_mem (show thas F.ts id = true from by
        have := hm.has1
        rw [thas_ids hm.rise1, ids_tnote, ← thas_ids h.t.rise] at this
        exact this)
      have := (h.c.last _ hx).1.at_ k (by rw [hxid]; exact hk)
      obtain ⟨_, r, hr, _⟩ := this
      exact ⟨r, hr⟩)
    rw [hkeep]
    have : vals (markF F id 5 2) = vals F := funext hm.vals_
    rw [this]
  · show upd F2.of n 0 = _
    rw [s5]
    rfl
end Go.Proofs.YtaplpeoikebedaaGreatDoor.BackA
namespace Go.Proofs.YtaplpeoikebedaaGreatDoor.BackB
open Go.RowKit Go.Maps YtaplpeoikebedaaGreatDoorW.PrintWords YtaplpeoikebedaaGreatDoorW.PrintLast YtaplpeoikebedaaGreatDoorW.PrintMore
open See Mem Clone Go.Proofs.YtaplpeoikebedaaGreatDoor.Cell Page PageB PageR Disk Dirty Pool2 RecD Rec Wal WalF PoolG PoolS SysD SysM StoreD StoreF StoreH TransT LockT LockU SpaceT WaitT FwdM FwdP FwdC FwdE FwdT FwdB EndT FwdL BackD BackL BackA BackM BackW BackV BackU
attribute [local go_sem] max2_imax min2_imin max_two min_two
theorem sv_del {w' : World} {bm n : Nat} {D : DataW Value} {m : Int} {vv : Int → Value} {s : Int} (hat : ∀ s : Int, D.atKey (.int .i64 s) (.held svz) = .held (vv s)) (h' : w'.ownsMap Tryz.prog 3 rS bm n (D.del (.int .i64 s))) (hn : (n : Int) ≤ m) : SvM w' bm m (fun t => if t = s then svz else vv t) := by
  refine ⟨n, _, h', hn, fun t => ?_⟩
  show _ = DataW.held (if t = s then svz else vv t)
  by_cases e : t = s
  · rw [if_pos e, e]
    exact atKey_del_same _
  · rw [if_neg e, atKey_del_other (fun h => e (by injection h)), hat]
theorem abort_calls (a : Nat → Addr) (M : Nat → Prop) (bp bm sp lp pp dp qp mp : Nat) (blocks frames : Int) (B : BSt) (n id hint : Int) (N m : Nat) (ch : Int → List Int) (kp : Int → Int) (w : World) (h : BkM M w bp bm sp lp pp dp qp mp blocks frames B) (hok : FOk N m ch kp B.F) (hof : B.F.of n = id) (hid : thas B.F.ts id = true) (hkp2 : kp id = 2) (hkp : ∀ x, 0 ≤ kp x) (hall : ∀ x ∈ B.F.ks, x.s = n) (hm : m + (ch id).length ≤ 30000) (hfr : B.F.S.frames ≤ 8) (hs : SentsAll w a) (hO : OutAll M a) (h0 : 0 ≤ n) (h1 : n < B.F.sess) (h2 : B.F.sess ≤ 1000) (hh0 : -9223372036854775808 ≤ hint) (hh1 : hint ≤ 9223372036854775807) :
    Calls Tryz.prog 34 #[.pointer (some ⟨bp, 0, none⟩), .int .i64 n, .int .i64 hint] w fun e w' => e = .returned .nilIface ∧ ∃ F', AbortR N m ch kp B.F n id F' ∧ BkPost M bp bm sp lp pp dp qp mp blocks frames { F := F', sv := updS B.sv n ⟨0, []⟩, nu := B.nu } w w' := by
  obtain ⟨R, sl, h⟩ := h
  obtain ⟨R, h, hrc⟩ : ∃ R', BkIn M w bp bm sp lp pp dp qp mp blocks frames B R' sl ∧ ∀ k, R' k → k < w.heap.size := ⟨_, h.cutR, fun k hk => hk.2⟩
  have HRC := Aside0.mk hrc
  have hroom := hok.g.room
  have hmk := mark_in hok hid hkp2 hkp
  have htid : (tget B.F.ts id).id = id := (tget_mem hid).2
  have HC := Aside0.mk (called_calls R sp lp pp dp qp mp blocks frames B.F n w h.f h0 h1 h2 (by rw [hof]; exact hid) hok.t.rise)
  rw [hof] at HC
  have HH := Aside0.mk h
  have HMK := Aside0.mk hmk
  have HOK := Aside0.mk hok
  have HKB := Aside0.mk (show 1 ≤ B.F.kept ∧ B.F.kept ≤ 1073741824 from ⟨hmk.kept, (room_top hok.g).2⟩)
  have HS := Aside0.mk hs
  have HO := Aside0.mk hO
  have HOR := Aside0.mk (OutAll.sub (M' := R) hO fun k hk => (h.r k hk).1)
  have HOF := Aside0.mk hof
  have HID := Aside0.mk hid
  have HKP := Aside0.mk hkp
  have HALL := Aside0.mk hall
  have HM := Aside0.mk hm
  have HFR := Aside0.mk hfr
  have HHB := Aside0.mk (And.intro hh0 hh1)
  have HWF := Aside0.mk (And.intro h0 (And.intro h1 h2))
  obtain ⟨x, hxx⟩ : ∃ x, tget B.F.ts id = x := ⟨_, rfl⟩
  have HXX := Aside0.mk hxx
  rw [hxx] at HC htid
  obtain ⟨xi, xs, xl, xn⟩ := x
  simp only at htid
  subst htid
  simp only [txV] at HC
  have c0 := h.cells.1
  have hbl := heap_lt h.box
  clear h hok hof hid hkp2 hkp hall hm hfr hs hO h0 h1 h2 hh0 hh1 hxx hrc hroom hmk
  go_enter Tryz.func34, Tryz.ntmps34
  go_wp2_with fail
  refine HC.out.mono ?_
  rintro e w1 ⟨rfl, hb⟩
  obtain ⟨W, hW⟩ : ∃ W, w1.alloc (.cells #[.int .i64 xi, .int .i64 xs, .int .i64 xl, .int .i64 xn] 102) = W := ⟨_, rfl⟩
  have HBW := Aside0.mk (show Below w.heap.size w W from below_step hb (show Below w1.heap.size w1 W by rw [← hW]; exact below_alloc (Below.refl _ _) _))
  obtain ⟨bx, hbx⟩ : ∃ b, w1.heap.size = b := ⟨_, rfl⟩
  have HXB := Aside0.mk (show W.heap[bx]? = some (.cells #[.int .i64 xi, .int .i64 xs, .int .i64 xl, .int .i64 xn] 102 (0, 0)) from by rw [← hW, ← hbx]; exact heap_alloc_new _ _)
  have HWN := Aside0.mk (And.intro hW hbx)
  have hbxw : w.heap.size ≤ bx := by have := hb.size; omega
  clear hW hb hbx c0 hbl
  go_upto_region 2 with fail
  rw [HWN.out.1, HWN.out.2]
  have HLB0 := Aside0.mk (LB.start HH.out.f HBW.out)
  have hbB : W.heap[bp]? = some (.cells #[.pointer (some ⟨sp, 0, none⟩), .map (some bm)] 61 (0, 0)) := (HBW.out.block _ (heap_lt HH.out.box)).trans HH.out.box
  have c0 : W.cell? ⟨bp, 0, none⟩ = some (.pointer (some ⟨sp, 0, none⟩)) := by simp [World.cell?, hbB]
  have hbl := heap_lt hbB
  obtain ⟨x0, x1, x2, x3, _, _, _, _⟩ := tx_cells HXB.out
  have hxl := heap_lt HXB.out
  have HBB := Aside0.mk hbB
  have HAP := Aside0.mk (show ∀ (V : World), Below W.heap.size W V → Calls Tryz.prog 74 #[.pointer (some ⟨sp, 0, none⟩), recV (recMark ⟨xi, xs, xl, xn⟩ 5)] V (fun e w' => e = .returned (.tuple #[.int .i64 (B.F.S.l.last + 1), .nilIface]) ∧ ∃ R', LB R sp lp pp dp qp mp blocks frames (addK B.F (recMark ⟨xi, xs, xl, xn⟩ 5)) w W R' w') from fun V hbl => by
    have hl := HLB0.out.below hbl
    obtain ⟨hs1, hs2⟩ := hl.sents HS.out HOR.out
    have := fappend_calls a _ sp lp pp dp qp mp blocks frames B.F (recMark ⟨xi, xs, xl, xn⟩ 5) V hl.f hs1 hs2 HKB.out (by rw [← HXX.out]; exact HMK.out.rec5) HMK.out.room
    exact this.mono fun e w' hh => ⟨hh.1, _, hl.step hh.2⟩)
  simp only [recV, recMark] at HAP
  clear hbB
  go_upto_region 4 with fail
  go_cut [9, 8] (fun v9 v8 wx => v9 = .int .i64 (B.F.S.l.last + 1) ∧ v8 = .nilIface ∧ ∃ R', Aside0 (LB R sp lp pp dp qp mp blocks frames (addK B.F (recMark ⟨xi, xs, xl, xn⟩ 5)) w W R' wx))
  case first =>
    go_region_law (first
      | (go_simp; go_at_call 74; refine (HAP.out _ (by repeat (first | exact Below.refl _ _ | apply below_drew1))).mono ?_; rintro e w3 ⟨rfl, R', hl⟩; have HL := Aside0.mk hl; clear hl))
    all_goals
      go_wp2_with fail
      go_meet
      exact ⟨rfl, rfl, R', HL⟩
  case rest =>
    obtain ⟨rfl, rfl, R1, HL1⟩ := hcut
    generalize wc = V1 at HL1 ⊢
    clear c0 hbl x0 x1 x2 x3 hxl HAP
    have nbp : ∀ {R' : Nat → Prop} {V : World} {F1 : FS}, LB R sp lp pp dp qp mp blocks frames F1 w W R' V → V.heap[bp]? = some (.cells #[.pointer (some ⟨sp, 0, none⟩), .map (some bm)] 61 (0, 0)) := fun hl => hl.k.at HH.out.box (fun hr => (HH.out.r bp hr).2.1 rfl)
    have HBP := Aside0.mk @nbp
    have hbB := nbp HL1.out
    clear nbp
    have c0 : V1.cell? ⟨bp, 0, none⟩ = some (.pointer (some ⟨sp, 0, none⟩)) := by simp [World.cell?, hbB]
    have hbl := heap_lt hbB
    clear hbB
    go_wp2_with fail
    refine (parts_calls _ sp lp pp dp qp mp blocks frames _ V1 HL1.out.f).mono ?_
    rintro e V2 ⟨rfl, hb2⟩
    have HL2 := Aside0.mk (HL1.out.below hb2)
    clear hb2 c0 hbl
    obtain ⟨cs, tv, htx, hput⟩ := FwM.txs HL2.out.f HOK.out.t.rise
    have HTX := Aside0.mk htx
    have HPT := Aside0.mk hput
    clear htx hput
    obtain ⟨x0, x1, x2, x3, _, _, _, _⟩ := tx_cells (HL2.out.at HXB.out hbxw)
    have hxl := heap_lt (HL2.out.at HXB.out hbxw)
    go_wp2_with fail
    refine (tnote_calls _ sp 8 118 cs tv B.F.ts B.F.most xi (B.F.S.l.last + 1) xn _ HTX.out HID.out).mono ?_
    rintro e V3 ⟨rfl, hpost⟩
    have HL3 := Aside0.mk (HL2.out.step (HPT.out _ _ _ (Int.le_refl _) hpost))
    clear hpost x0 x1 x2 x3 hxl HTX HPT
    have hr1 : Rising (kvT (tnote B.F.ts xi (B.F.S.l.last + 1) xn)) := by have := HMK.out.rise1; rw [HXX.out] at this; exact this
    have hh1 : thas (tnote B.F.ts xi (B.F.S.l.last + 1) xn) xi = true := by have := HMK.out.has1; rw [HXX.out] at this; exact this
    obtain ⟨cs, tv, htx, hput⟩ := FwM.txs HL3.out.f hr1
    have HTX := Aside0.mk htx
    have HPT := Aside0.mk hput
    have HH1 := Aside0.mk hh1
    clear htx hput hr1 hh1
    obtain ⟨x0, x1, x2, x3, _, _, _, _⟩ := tx_cells (HL3.out.at HXB.out hbxw)
    have hxl := heap_lt (HL3.out.at HXB.out hbxw)
    go_wp2_with fail
    refine (tstate_calls _ sp 8 118 cs tv (tnote B.F.ts xi (B.F.S.l.last + 1) xn) B.F.most xi 2 _ HTX.out HH1.out).mono ?_
    rintro e V4 ⟨rfl, hpost⟩
    have HL4 := Aside0.mk (HL3.out.step (HPT.out _ _ _ (Int.le_refl _) hpost))
    clear hpost x0 x1 x2 x3 hxl HTX HPT
    have HF4 := Aside0.mk (show FwPost R sp lp pp dp qp mp blocks frames (markF B.F xi 5 2) w V4 from by
      have h4 := HL4.out.post
      have e : markF B.F xi 5 2 = { B.F with S := addRec B.F.S (recMark ⟨xi, xs, xl, xn⟩ 5), ts := tstate (tnote B.F.ts xi (B.F.S.l.last + 1) xn) xi 2, kept := B.F.kept - 1 } := by
        unfold markF
        rw [HXX.out]
      rw [e]
      exact h4)
    have HI4 := Aside0.mk (BkIn.fwI HH.out HF4.out)
    have HS4 := Aside0.mk (SentsAll.kp HS.out HI4.out.2 HO.out)
    have HO4 := Aside0.mk (OutAll.gr (w' := V4) HO.out HS.out)
    have HUN := Aside0.mk (undo_calls a (Gr M w V4) (Gr R w V4) bp bm sp lp pp dp qp mp blocks frames { B with F := markF B.F xi 5 2 } sl xi 0 hint N m ch (updk kp xi 1) (ch xi) [] V4 HI4.out.1 HMK.out.ok HMK.out.has2 (by simp) rfl (updk_pos HKP.out xi) HM.out HFR.out HS4.out HO4.out HHB.out.1 HHB.out.2)
    obtain ⟨x0, x1, x2, x3, _, _, _, _⟩ := tx_cells (HL4.out.at HXB.out hbxw)
    have hxl := heap_lt (HL4.out.at HXB.out hbxw)
    go_wp2_with fail
    refine HUN.out.mono ?_
    rintro e V5 ⟨rfl, F2, hu, hp⟩
    have HU := Aside0.mk hu
    have HI5 := Aside0.mk (BkIn.fwI HI4.out.1 hp)
    clear hu hp x0 x1 x2 x3 hxl
    obtain ⟨hend, habr⟩ := abort_end HOK.out HOF.out HKP.out HALL.out HMK.out HU.out
    have HEND := Aside0.mk hend
    have HABR := Aside0.mk habr
    clear hend habr
    obtain ⟨n0, D, hown, hn0, hat⟩ := HI5.out.1.map
    have HOWN := Aside0.mk hown
    have HAT := Aside0.mk hat
    have HN0 := Aside0.mk hn0
    have HWN2 := Aside0.mk (wf64 (n := n) (by have := HWF.out; omega) (by have := HWF.out; omega))
    obtain ⟨c0, c1⟩ := HI5.out.1.cells
    have hbl := heap_lt HI5.out.1.box
    clear hown hat hn0
    go_upto_region 14 with (first | (at_delete; refine wpList_delete_own _ rfl _ _ 59 3 rfl 148 (int_keyed Tryz.underlying3) Tryz.underlying59 _ bm n0 D rfl HOWN.out _ _ rfl (keyOf_int_mk Tryz.underlying3 HWN2.out) ?_; intro V6 hown6 hg6))
    have HS6 := Aside0.mk (sv_del HAT.out hown6 HN0.out)
    have HG6 := Aside0.mk hg6.grown
    clear hown6 hg6 c0 c1 hbl
    have HP6 := Aside0.mk (BkIn.put (w' := V6) (n := n) (id := xi) (t := 0) (v' := .slice none 0 0) (xs' := []) (nu := B.nu) HI5.out.1
      ⟨HG6.out.os, HG6.out.tape, HG6.out.output⟩ HG6.out.size (fun j hj hne2 _ => HG6.out.block j hj (fun e => hne2 (by injection e))) HS6.out (IS.nil _ _)
      (fun g hg => by simp [Value.ownBlock] at hg))
    obtain ⟨⟨R6, sl6, h6⟩, hk6⟩ := HP6.out
    have H6 := Aside0.mk h6
    have HK6 := Aside0.mk hk6
    clear h6 hk6 HP6
    have HM6 := Aside0.mk (show Kp M w V6 from HI4.out.2.transG (HI5.out.2.transG HK6.out))
    have HS7 := Aside0.mk (SentsAll.kp HS.out HM6.out HO.out)
    have HG0 := Aside0.mk (show ∀ j, Gr (Gr (Gr M w V4) V4 V5) V5 V6 j → Gr M w V6 j from fun j hj => Gr.trans (Nat.le_trans HI4.out.2.size HI5.out.2.size) HK6.out.size (by
      rcases hj with hj | hj
      · exact .inl (Gr.trans HI4.out.2.size HI5.out.2.size hj)
      · exact .inr hj))
    have HO7 := Aside0.mk (OutAll.sub (M' := R6) (OutAll.gr (w' := V6) HO.out HS.out) fun j hj => HG0.out j (H6.out.r j hj).1)
    have HLV := Aside0.mk (leave_calls a R6 sp lp pp dp qp mp blocks frames F2 n xi V6 H6.out.f HS7.out HO7.out HWF.out.1 (by have := HWF.out; omega) (by
      have h1 := HU.out.same.2.2.2.2.1
      rw [h1]; exact HOF.out) HEND.out.has_ HEND.out.rise HEND.out.tid HEND.out.kept HEND.out.rec6 HEND.out.room (by
      have h1 : F2.ks = B.F.ks := HU.out.same.2.2.1
      rw [h1]; exact HALL.out))
    obtain ⟨c0, c1⟩ := H6.out.cells
    have hbl := heap_lt H6.out.box
    go_wp2_with fail
    refine HLV.out.mono ?_
    rintro e V7 ⟨rfl, hp7⟩
    have HP7 := Aside0.mk (H6.out.fw hp7)
    clear hp7 c0 c1 hbl
    go_wp2_with fail
    go_ret
    refine ⟨rfl, _, HABR.out, ?_⟩
    exact BkPost.trans ⟨⟨R6, sl6, H6.out.mono HG0.out⟩, HM6.out⟩ fun _ => ⟨BkM.mono HP7.out.1 fun j hj => by
      rcases hj with hj | hj
      · exact .inl (HG0.out j hj)
      · exact .inr hj, HP7.out.2.wide fun j hj => HG0.out j hj⟩
end Go.Proofs.YtaplpeoikebedaaGreatDoor.BackB
namespace Go.Proofs.YtaplpeoikebedaaGreatDoor.HeldT
open Go.RowKit YtaplpeoikebedaaGreatDoorW.PrintWords YtaplpeoikebedaaGreatDoorW.PrintLast YtaplpeoikebedaaGreatDoorW.PrintMore
open See Mem Clone Go.Proofs.YtaplpeoikebedaaGreatDoor.Cell Page PageR Disk DiskN Pool1 Pool2 Rw Del Num SortI StoreD TransT LockT LockU
attribute [local go_sem] max2_imax min2_imin max_two min_two
theorem clos_held (s1 k1 m1 : Int) (w : World) :
    Calls Tryz.prog 185 #[.agg #[.int .i64 s1, .int .i64 k1, .int .i64 m1]] w fun e w' => e = .returned (.bool (m1 == 2)) ∧ Below w.heap.size w w' := by
  go_enter Tryz.func185, Tryz.ntmps185
  go_wp2_with fail
  go_ret
  exact ⟨rfl, by repeat (first | exact Below.refl _ _ | apply pw_below_drewN | apply below_drew1 | apply below_alloc)⟩
theorem heldL_succ {ls : List Lk} {i : Nat} {h : Lk} (hi : ls[i]? = some h) : heldL (ls.take (i + 1)) = heldL (ls.take i) ++ (if h.mode == 2 then [h.key] else []) := by
  obtain ⟨h1, h2⟩ := List.getElem?_eq_some_iff.1 hi
  unfold heldL
  rw [List.take_succ_eq_append_getElem h1, List.filter_append, List.map_append, h2]
  by_cases e : (h.mode == 2) = true
  · simp [e]
  · simp [e]
theorem heldL_len (ls : List Lk) : (heldL ls).length ≤ ls.length := by
  unfold heldL
  rw [List.length_map]
  exact List.length_filter_le _ _
theorem sortI_rise {xs : List Int} (h : xs.Nodup) : (sortI xs).Pairwise (· < ·) := by
  have h1 : (sortI xs).Pairwise (fun a b => decide (a ≤ b) = true) := List.pairwise_mergeSort (fun a b c h1 h2 => by simp at *; omega) (fun a b => by simp; omega) xs
  have h2 : (sortI xs).Nodup := (List.Perm.nodup_iff (List.mergeSort_perm xs _)).2 h
  exact (h1.and h2).imp fun hab => by have := hab.1; have := hab.2; simp at *; omega
def NR (w : World) (v : Value) (xs : List Int) : Prop := Rd w 3 1 v xs.length (xs.map (.int .i64))
theorem NR.below {w w' : World} {v : Value} {xs : List Int} (h : NR w v xs) (hb : Below w.heap.size w w') : NR w' v xs := Rd.below h hb
theorem is_at {w : World} {b : Nat} {A : Option Addr} {n cap : Nat} {xs : List Int} (h : IS w b (.slice A n cap) xs) {i : Nat} {x : Int} (hi : xs[i]? = some x) : ∃ g, A = some ⟨g, 0, none⟩ ∧ n = xs.length ∧ w.cell? ⟨g, i, none⟩ = some (.int .i64 x) := by
  have hlt : i < xs.length := (List.getElem?_eq_some_iff.1 hi).1
  rcases h.2 with ⟨h1, h2⟩ | ⟨g', cap', cur, hv, hg, hh, hnc, hcm, hsz, htk⟩
  · omega
  · injection hv with h1 h2 h3
    subst h1 h2
    refine ⟨g', rfl, rfl, ?_⟩
    have hu : (xs.map (Value.int .i64))[i]? = some (.int .i64 x) := by rw [List.getElem?_map, hi]; rfl
    rw [← htk, List.getElem?_take, if_pos (by omega)] at hu
    simp only [World.cell?, hh]
    simpa using hu
theorem compact_calls (b : Nat) (v : Value) (xs : List Int) (w : World) (h : IS w b v xs) (hp : xs.Pairwise (· < ·)) (hl : xs.length ≤ 100000) :
    Calls Tryz.prog 180 #[v] w fun e w' => e = .returned v ∧ Below w.heap.size w w' := by
  obtain ⟨A, cap, rfl, _⟩ := ow_slice h
  obtain ⟨n, hn⟩ : ∃ n, xs.length = n := ⟨_, rfl⟩
  have HN := Aside0.mk hn
  have HS := Aside0.mk h
  have HP := Aside0.mk hp
  rw [hn] at hl ⊢
  clear h hp hn
  by_cases h2 : (n : Int) < 2
  · go_enter Tryz.func180, Tryz.ntmps180
    go_wp2_with fail
    go_ret
    exact ⟨rfl, Below.refl _ _⟩
  · have HN2 := Aside0.mk (show 2 ≤ n by omega)
    go_enter Tryz.func180, Tryz.ntmps180
    go_wp2_with fail
    go_loopg [3] n (fun kq v3 w' => ∃ (k : Int), v3 = .int .i64 k ∧ Aside0 (1 ≤ k ∧ k ≤ n ∧ (kq : Int) = n + 1 - k) ∧ Aside0 (Below w.heap.size w w'))
    case atStart => exact ⟨1, rfl, ⟨by omega, by have := HN2.out; omega, by omega⟩, ⟨Below.refl _ _⟩⟩
    case round =>
      obtain ⟨k, rfl, HK, HB⟩ := hrel
      have hk1 : 1 ≤ k := HK.out.1
      by_cases hlt : k < n
      · obtain ⟨j, hj⟩ : ∃ j, k - 1 = j := ⟨_, rfl⟩
        obtain ⟨x, hx⟩ : ∃ x, xs[k.toNat]? = some x := ⟨_, List.getElem?_eq_getElem (by have := HN.out; omega)⟩
        obtain ⟨y, hy⟩ : ∃ y, xs[j.toNat]? = some y := ⟨_, List.getElem?_eq_getElem (by have := HN.out; omega)⟩
        have hxy : (x == y) = false := by
          have hx1 := List.getElem?_eq_some_iff.1 hx
          have hy1 := List.getElem?_eq_some_iff.1 hy
          obtain ⟨hx2, hx3⟩ := hx1
          obtain ⟨hy2, hy3⟩ := hy1
          have := List.pairwise_iff_getElem.1 HP.out j.toNat k.toNat hy2 hx2 (by omega)
          rw [hx3, hy3] at this
          simp; omega
        obtain ⟨g, rfl, hnn, hc1⟩ := is_at (HS.out.below HB.out) hx
        obtain ⟨g', hg', _, hc2⟩ := is_at (HS.out.below HB.out) hy
        obtain rfl : g = g' := by simpa using hg'
        have hj0 : 0 ≤ j := by omega
        have hjn : j < n := by omega
        have hw : IntKind.i64.wrap (k - 1) = j := by rw [IntKind.wrap_i64]; omega
        clear hg' hnn hx hy hj
        go_wp2_with fail
        go_quiet (fail)
        have HBQ := Aside0.mk (pw_below_drewN HB.out nq)
        go_wp2_with fail
        go_roundg (gk - 1)
        case measure => have := HK.out; omega
        case rel => exact ⟨k + 1, rfl, ⟨by omega, by omega, by have := HK.out; omega⟩, HBQ⟩
      · go_wp2_with fail
        go_ret
        exact ⟨rfl, HB.out⟩
theorem clip_calls (b : Nat) (v : Value) (xs : List Int) (w : World) (h : IS w b v xs) (hl : xs.length ≤ 100000) :
    Calls Tryz.prog 214 #[v] w fun e w' => ∃ v', e = .returned v' ∧ NR w' v' xs ∧ Below w.heap.size w w' := by
  rcases h.2 with ⟨rfl, h0⟩ | ⟨g, cap, cur, rfl, hg, hh, hnc, hcm, hsz, htk⟩
  · have hx : xs = [] := List.eq_nil_of_length_eq_zero h0
    subst hx
    go_enter Tryz.func214, Tryz.ntmps214
    go_wp2_with fail
    go_ret
    exact ⟨_, rfl, Rd.nil _ _ _, Below.refl _ _⟩
  · obtain ⟨n, hn⟩ : ∃ n, xs.length = n := ⟨_, rfl⟩
    have HH := Aside0.mk (show NR w (.slice (some ⟨g, 0, none⟩) n n) xs from by
      subst hn
      exact ⟨by simp, by omega, .inr ⟨g, 0, _, cur, _, rfl, hh, Nat.le_refl _, by unfold maxLen; omega, by omega, by simpa using htk⟩⟩)
    rw [hn] at hnc hl ⊢
    clear hh hsz htk hcm hn h
    go_enter Tryz.func214, Tryz.ntmps214
    go_wp2_with fail
    go_ret
    exact ⟨_, rfl, HH.out, Below.refl _ _⟩
theorem keys_calls (p o : Nat) (v : Value) (ls : List Lk) (w : World) (hr : LR w v ls) (hc : w.cell? ⟨p, o, none⟩ = some v) (hd : (heldL ls).Nodup) :
    Calls Tryz.prog 184 #[.pointer (some ⟨p, o, none⟩), .func (.func 185) #[] #[]] w fun e w' => ∃ v', e = .returned v' ∧ NR w' v' (sortI (heldL ls)) ∧ Below w.heap.size w w' := by
  obtain ⟨i0, hi, hzz⟩ := Option.map_eq_some_iff.1 info_int
  simp only [Prod.mk.injEq] at hzz
  obtain ⟨hz0, hz1, hz2⟩ := hzz
  obtain ⟨A, cap, rfl, _⟩ := ow_slice hr.1
  obtain ⟨l, hl⟩ : ∃ l, ls.length = l := ⟨_, rfl⟩
  have HL := Aside0.mk hl
  have HF := Aside0.mk hr
  have HD := Aside0.mk hd
  have hl8 : l ≤ 100000 := by rw [← hl]; exact hr.2
  rw [hl] at hc
  have HI0 := Aside0.mk (And.intro hi (And.intro hz0 (And.intro hz1 hz2)))
  clear hr hl hi hz0 hz1 hz2 hd
  go_enter Tryz.func184, Tryz.ntmps184
  go_wp2_with fail
  go_loopg [5, 13] (l + 1) (fun kq v5 v13 w' => ∃ (i : Int) (sl : Value), v5 = sl ∧ v13 = .int .i64 i ∧ Aside0 (0 ≤ i ∧ i ≤ l ∧ (kq : Int) = l + 1 - i) ∧ Aside0 (IS w' w.heap.size sl (heldL (ls.take i.toNat))) ∧ Aside0 (Below w.heap.size w w'))
  case atStart => exact ⟨0, _, rfl, rfl, ⟨by omega, by omega, by omega⟩, ⟨IS.nil _ _⟩, ⟨Below.refl _ _⟩⟩
  case round =>
    obtain ⟨i, sl, rfl, rfl, HI, HS, HB⟩ := hrel
    have hi0 : 0 ≤ i := HI.out.1
    by_cases hlt : i < l
    · obtain ⟨f, hf⟩ : ∃ f, ls[i.toNat]? = some f := ⟨_, List.getElem?_eq_getElem (by have := HL.out; omega)⟩
      obtain ⟨g, rfl, hll, hd0, hd1, hd2⟩ := (HF.out.below HB.out).at hf
      have HW := Aside0.mk (heldL_succ hf)
      obtain ⟨fs1, fk, fm⟩ := f
      simp only at hd0 hd1 hd2 HW
      clear hf hll
      go_wp2_with fail
      refine (clos_held fs1 fk fm _).mono ?_
      rintro e w1 ⟨rfl, hb⟩
      have hx1 : w1.heap[wr.heap.size]? = some (.cells #[.int .i64 fs1, .int .i64 fk, .int .i64 fm] 265 (0, 0)) := (hb.block wr.heap.size (by show _ < (wr.heap.push _).size; rw [Array.size_push]; omega)).trans (heap_alloc_new wr _)
      have hc1 : w1.cell? ⟨wr.heap.size, 1, none⟩ = some (.int .i64 fk) := by simp [World.cell?, hx1]
      have HB1 := Aside0.mk (below_step HB.out (below_step (below_alloc (Below.refl wr.heap.size wr) _) hb))
      have HS1 := Aside0.mk (HS.out.below (below_step (below_alloc (Below.refl wr.heap.size wr) _) hb))
      clear hb hx1 hd0 hd1 hd2
      by_cases h3 : fm = 2
      · subst h3
        have HIN := Aside0.mk (show heldL (ls.take (i.toNat + 1)) = heldL (ls.take i.toNat) ++ [fk] from HW.out)
        rw [show ((2 : Int) == 2) = true from by decide]
        obtain ⟨hi, hz0, hz1, hz2⟩ := HI0.out
        obtain ⟨n, hn⟩ : ∃ n, (heldL (ls.take i.toNat)).length = n := ⟨_, rfl⟩
        have HLT := Aside0.mk hn
        have hn5 : n ≤ 100000 := by rw [← hn]; have := heldL_len (ls.take i.toNat); rw [List.length_take] at this; omega
        clear hn
        go_wp2_with (at_builtin; refine wpList_append_lies _ (by rfl) _ _ 22 (by rfl) w.heap.size 3 i0 (.int .i64 0) 1 8 Tryz.underlying22 hi hz0 hz1 hz2 rfl (by decide) _ n ((heldL (ls.take i.toNat)).map (.int .i64)) (by rfl) ?own ⟨w1.heap.size, 0, none⟩ 1 1 [.int .i64 fk] (by rfl) rfl ?news (one_int _) (by decide) (len_ok hn5) ?by8 ?base (w1.heap.size + 1) ?hh ?_)
        case own => have := HS1.out; unfold IS at this; rw [HLT.out] at this; exact ow_below this (by repeat (first | exact Below.refl _ _ | apply below_drew1 | apply below_alloc))
        case news =>
          intro j u hj
          match j, hj with
          | 0, hj => simp at hj; subst hj; simp [Addr.add]
        case by8 => omega
        case base => have := HB1.out.size; simp; omega
        case hh => simp
        intro g2 cap2 w3 hown hgr hor hlt3
        have HO3 := Aside0.mk (show IS w3 w.heap.size (.slice (some ⟨g2, 0, none⟩) (n + 1) cap2) (heldL (ls.take (i.toNat + 1))) from by
          unfold IS
          rw [HIN.out, List.length_append, HLT.out, List.map_append]
          exact hown)
        have HB3 := Aside0.mk (show Below w.heap.size w w3 from (HB1.out.trans (Below.mono (show Below w1.heap.size w1 (w1.alloc (.cells #[.int .i64 fk] 3)) by repeat (first | exact Below.refl _ _ | apply below_drew1 | apply below_alloc)) HB1.out.size)).grown (w := _) hgr (by have := HB1.out.size; simp; omega) (fun k hk => by have h := HS1.out; exact (ow_block h hk).1))
        clear hown hgr hor hlt3 hi hz0 hz1 hz2
        go_wp2_with fail
        go_roundg (gk - 1)
        case measure => have := HI.out; omega
        case rel => exact ⟨i + 1, _, rfl, rfl, ⟨by omega, by omega, by have := HI.out; omega⟩, ⟨by rw [show (i + 1).toNat = i.toNat + 1 from by omega]; exact HO3.out⟩, HB3⟩
      · have q3 : (fm == 2) = false := by simpa using h3
        have HIN := Aside0.mk (show heldL (ls.take (i.toNat + 1)) = heldL (ls.take i.toNat) from by rw [HW.out, q3]; simp)
        rw [q3]
        go_wp2_with fail
        go_roundg (gk - 1)
        case measure => have := HI.out; omega
        case rel => exact ⟨i + 1, _, rfl, rfl, ⟨by omega, by omega, by have := HI.out; omega⟩, ⟨by rw [show (i + 1).toNat = i.toNat + 1 from by omega, HIN.out]; exact HS1.out⟩, HB1⟩
    · have HE := Aside0.mk (show ls.take i.toNat = ls by rw [show i.toNat = ls.length from by have := HI.out; have := HL.out; omega]; exact List.take_length)
      have HS2 := Aside0.mk (show IS wr w.heap.size u5 (heldL ls) from by have h := HS.out; rw [HE.out] at h; exact h)
      obtain ⟨A9, c9, hv9, _⟩ := ow_slice HS2.out
      rw [hv9] at HS2
      obtain ⟨q, hq⟩ : ∃ q, heldL ls = q := ⟨_, rfl⟩
      have HQ := Aside0.mk hq
      rw [hq] at HS2 hv9
      have HRS := Aside0.mk (sortI_rise (by rw [← hq]; exact HD.out : q.Nodup))
      obtain ⟨n, hn⟩ : ∃ n, q.length = n := ⟨_, rfl⟩
      have hn5 : n ≤ 100000 := by rw [← hn, ← hq]; have := heldL_len ls; have := HL.out; omega
      have HSL := Aside0.mk (sortI_len q)
      rw [hn] at HS2 hv9 HSL
      have HN := Aside0.mk hn
      clear hq hn
      subst hv9
      go_wp2_with fail
      refine (sort_is w.heap.size (.slice A9 n c9) q _ HS2.out (by have := HN.out; omega)).mono ?_
      rintro e w2 ⟨rfl, h2, hg2⟩
      have HB2 := Aside0.mk (show Below w.heap.size w w2 from HB.out.grown hg2 HB.out.size (fun k hk => (ow_block HS2.out hk).1))
      have HI2 := Aside0.mk h2
      clear h2 hg2
      go_wp2_with fail
      refine (compact_calls w.heap.size (.slice A9 n c9) (sortI q) _ HI2.out HRS.out (by rw [HSL.out]; exact hn5)).mono ?_
      rintro e w3 ⟨rfl, hb3⟩
      have HB3 := Aside0.mk (below_step HB2.out hb3)
      have HI3 := Aside0.mk (HI2.out.below hb3)
      clear hb3
      go_wp2_with fail
      refine (clip_calls w.heap.size (.slice A9 n c9) (sortI q) _ HI3.out (by rw [HSL.out]; exact hn5)).mono ?_
      rintro e w4 ⟨v4, rfl, hr4, hb4⟩
      obtain ⟨A4, c4, rfl, _⟩ := hr4.form
      have HR4 := Aside0.mk hr4
      have HB4 := Aside0.mk (below_step HB3.out hb4)
      clear hr4 hb4
      go_wp2_with fail
      go_ret
      exact ⟨_, rfl, by rw [HQ.out]; exact HR4.out, HB4.out⟩
theorem held_calls (p o : Nat) (v : Value) (ls : List Lk) (w : World) (hr : LR w v ls) (hc : w.cell? ⟨p, o, none⟩ = some v) (hd : (heldL ls).Nodup) :
    Calls Tryz.prog 127 #[.pointer (some ⟨p, o, none⟩)] w fun e w' => ∃ v', e = .returned v' ∧ NR w' v' (sortI (heldL ls)) ∧ Below w.heap.size w w' := by
  have HC := Aside0.mk (keys_calls p o v ls w hr hc hd)
  clear hr hc hd
  go_enter Tryz.func127, Tryz.ntmps127
  go_wp2_with fail
  refine HC.out.mono ?_
  rintro e w4 ⟨v4, rfl, hr4, hb4⟩
  obtain ⟨A4, c4, rfl, _⟩ := hr4.form
  have HR4 := Aside0.mk hr4
  have HB4 := Aside0.mk hb4
  clear hr4 hb4
  go_wp2_with fail
  go_ret
  exact ⟨_, rfl, HR4.out, HB4.out⟩
end Go.Proofs.YtaplpeoikebedaaGreatDoor.HeldT
