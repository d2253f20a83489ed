/- Joined texts: BackU, StoreK, BackA, BackB. No condition but what each says. -/
import Derived.Test.YtaplpeoikebedaaGreatDoorV34
import Derived.Test.YtaplpeoikebedaaGreatDoorV35
import Derived.BigQuiet
import Derived.Test.YtaplpeoikebedaaGreatDoorV28
import Derived.Test.YtaplpeoikebedaaGreatDoorV32
import Derived.Test.YtaplpeoikebedaaGreatDoorV33
set_option maxHeartbeats 8000000
set_option maxRecDepth 100000
set_option linter.unusedVariables false
set_option linter.unusedSimpArgs false
namespace Go.Proofs.YtaplpeoikebedaaGreatDoor.BackU
open Go.RowKit Go.Maps YtaplpeoikebedaaGreatDoorW.PrintWords YtaplpeoikebedaaGreatDoorW.PrintLast YtaplpeoikebedaaGreatDoorW.PrintMore
open See Mem Clone Go.Proofs.YtaplpeoikebedaaGreatDoor.Cell Page PageB PageR Disk Dirty Pool2 RecD Wal WalF PoolG PoolS SysD SysM StoreD StoreF StoreH TransT LockT LockU SpaceT WaitT FwdM FwdP FwdC FwdE FwdT BackD BackL BackS BackM BackW BackV
attribute [local go_sem] max2_imax min2_imin max_two min_two
theorem parts_calls (M : Nat → Prop) (sp lp pp dp qp mp : Nat) (blocks frames : Int) (F : FS) (w : World) (h : FwM M w sp lp pp dp qp mp blocks frames F) :
    Calls Tryz.prog 88 #[.pointer (some ⟨sp, 0, none⟩)] w fun e w' => e = .returned (.tuple #[.pointer (some ⟨lp, 0, none⟩), .pointer (some ⟨pp, 0, none⟩), .pointer (some ⟨sp, 8, none⟩), .pointer (some ⟨qp, 0, none⟩)]) ∧ Below w.heap.size w w' := by
  obtain ⟨_, _, k4, k5, _, _, k10, _⟩ := h.cells
  have hspl : sp < w.heap.size := by obtain ⟨kv, tv, b1, _⟩ := h.box; exact heap_lt b1
  clear h
  go_enter Tryz.func88, Tryz.ntmps88
  go_wp2_with fail
  go_quiet (fail)
  have HB := Aside0.mk (pw_below_drewN (Below.refl w.heap.size w) nq)
  go_wp2_with fail
  exact bodyPost_ret (v := .tuple #[.pointer (some ⟨lp, 0, none⟩), .pointer (some ⟨pp, 0, none⟩), .pointer (some ⟨sp, 8, none⟩), .pointer (some ⟨qp, 0, none⟩)]) (by simp [results, Tryz.results88, go_sem]) rfl ⟨rfl, HB.out⟩
theorem undo_calls (a : Nat → Addr) (M R : Nat → Prop) (bp bm sp lp pp dp qp mp : Nat) (blocks frames : Int) (B : BSt) (sl : Int → Value) (id tg hint : Int) (N m : Nat) (ch : Int → List Int) (kp : Int → Int) (pre rest : List Int) (w : World) (h : BkIn M w bp bm sp lp pp dp qp mp blocks frames B R sl) (hok : FOk N m ch kp B.F) (hid : thas B.F.ts id = true) (hch : ch id = pre ++ rest) (hto : tg = rest.headD 0) (hkp : ∀ x, 0 ≤ kp x) (hm : m + pre.length ≤ 30000) (hfr : B.F.S.frames ≤ 8) (hs : SentsAll w a) (hO : OutAll M a) (hh0 : -9223372036854775808 ≤ hint) (hh1 : hint ≤ 9223372036854775807) :
    Calls Tryz.prog 89 #[.pointer (some ⟨bp, 0, none⟩), .int .i64 id, .int .i64 tg, .int .i64 hint] w fun e w' => e = .returned .nilIface ∧ ∃ F', UndoR N m ch kp B.F id pre rest F' ∧ FwPost R sp lp pp dp qp mp blocks frames F' w w' := by
  have HF := Aside0.mk h.f
  have HS := Aside0.mk hs
  have HO := Aside0.mk (OutAll.sub (M' := R) hO fun k hk => (h.r k hk).1)
  have HU0 := Aside0.mk (show UndoR N m ch kp B.F id [] (pre ++ rest) B.F from by rw [← hch]; exact UndoR.refl hok hid)
  have HOK := Aside0.mk hok
  have HCH := Aside0.mk hch
  have HID := Aside0.mk hid
  have HTO := Aside0.mk hto
  have HKP := Aside0.mk hkp
  have HM := Aside0.mk hm
  have HFR := Aside0.mk hfr
  have HHB := Aside0.mk (And.intro hh0 hh1)
  have HST := Aside0.mk (show ∀ k ∈ pre, (k ≠ rest.headD 0 ∧ k ≠ 0) ∧ ∃ r, recOf B.F.S.l k = some r from fun k hk => by
    obtain ⟨hx, hxid⟩ := tget_mem hid
    have hc := (hok.c.last _ hx).1
    rw [hxid, hch] at hc
    refine ⟨Chain.stop hc k hk, ?_⟩
    obtain ⟨_, r, hr, _⟩ := hc.at_ k (List.mem_append_left _ hk)
    exact ⟨r, hr⟩)
  have c0 := h.cells.1
  have hbl := heap_lt h.box
  clear h hok hid hch hto hkp hm hfr hs hO hh0 hh1
  go_enter Tryz.func89, Tryz.ntmps89
  go_wp2_with fail
  refine (parts_calls _ sp lp pp dp qp mp blocks frames B.F w HF.out).mono ?_
  rintro e w1 ⟨rfl, hb⟩
  have HP1 := Aside0.mk (FwPost.step (FwPost.refl HF.out) hb)
  clear hb c0 hbl
  go_wp2_with fail
  go_loopg [] (pre.length + 1) (fun kq w' => ∃ (d q : List Int) (F' : FS), Aside0 (pre = d ++ q ∧ kq = q.length + 1) ∧ Aside0 (UndoR N m ch kp B.F id d (q ++ rest) F') ∧ Aside0 (FwPost R sp lp pp dp qp mp blocks frames F' w w'))
  case atStart => exact ⟨[], pre, B.F, ⟨rfl, rfl⟩, HU0, HP1⟩
  case round =>
    obtain ⟨d, q, F', HD, HU, HP⟩ := hrel
    obtain ⟨kv, tv, b1, _, _, b4, _⟩ := HP.out.1.box
    have HG := Aside0.mk (by
      have := tget_calls sp 8 tv F'.ts id wr b4 HU.out.ok.t.rise (show wr.cell? ⟨sp, 8, none⟩ = some tv by simp [World.cell?, b1, fwCells])
      rw [HU.out.has_] at this
      exact this)
    clear b1 b4
    have hnx : (tget F'.ts id).next = (q ++ rest).headD 0 := by
      obtain ⟨hx, hxid⟩ := tget_mem HU.out.has_
      have := HU.out.ok.c.next _ hx
      rw [hxid] at this
      rw [this]
      unfold updc
      rw [if_pos rfl]
    obtain ⟨x, hxx⟩ : ∃ x, tget F'.ts id = x := ⟨_, rfl⟩
    have HXX := Aside0.mk hxx
    rw [hxx] at HG hnx
    obtain ⟨xi, xs, xl, xn⟩ := x
    simp only [txV] at HG
    simp only at hnx
    clear hxx
    have HSR := Aside0.mk (SentsAll.kp HS.out HP.out.2 HO.out)
    have HOR := Aside0.mk (OutAll.gr (w' := wr) HO.out HS.out)
    cases q with
    | nil =>
      have HD2 := Aside0.mk (show d = pre by have := HD.out.1; rw [this, List.append_nil])
      have hxt : xn = tg := by rw [HTO.out]; exact hnx
      subst hxt
      go_wp2_with fail
      refine HG.out.mono ?_
      rintro e w2 ⟨rfl, hb⟩
      have HB2 := Aside0.mk hb
      clear hb
      go_wp2_with fail
      go_ret
      refine ⟨rfl, F', ?_, FwPost.step HP.out (below_alloc HB2.out _)⟩
      have := HU.out
      rw [HD2.out] at this
      exact this
    | cons k q =>
      have hxk : xn = k := hnx
      subst hxk
      clear hnx
      have hkm : xn ∈ pre := by rw [HD.out.1]; exact List.mem_append_right _ List.mem_cons_self
      obtain ⟨⟨hs1, hs2⟩, hrec⟩ := HST.out xn hkm
      have hkt : (xn == tg) = false := by
        rw [HTO.out]
        exact beq_eq_false_iff_ne.2 hs1
      have hk0 : (xn == 0) = false := beq_eq_false_iff_ne.2 hs2
      have hdl : d.length + (xn :: q).length = pre.length := by rw [HD.out.1, List.length_append]
      obtain ⟨S', r, hi, hu⟩ := UndoR.step (ks := q ++ rest) hint HU.out hrec HKP.out (by have := HM.out; simp at hdl; omega) HFR.out
      have HI := Aside0.mk hi
      have HU2 := Aside0.mk hu
      have HDL := Aside0.mk hdl
      clear hi hu hrec hs1 hs2 hkm hdl
      go_wp2_with fail
      refine HG.out.mono ?_
      rintro e w2 ⟨rfl, hb⟩
      obtain ⟨W, hW⟩ : ∃ W, w2.alloc (.cells #[.int .i64 xi, .int .i64 xs, .int .i64 xl, .int .i64 xn] 102) = W := ⟨_, rfl⟩
      have HBW := Aside0.mk (show Below wr.heap.size wr W from below_step hb (show Below w2.heap.size w2 W by rw [← hW]; exact below_alloc (Below.refl _ _) _))
      obtain ⟨bx, hbx⟩ : ∃ b, w2.heap.size = b := ⟨_, rfl⟩
      have HXB := Aside0.mk (show W.heap[bx]? = some (.cells #[.int .i64 xi, .int .i64 xs, .int .i64 xl, .int .i64 xn] 102 (0, 0)) from by rw [← hW, ← hbx]; exact heap_alloc_new _ _)
      have HWN := Aside0.mk (And.intro hW hbx)
      clear hW hbx hb
      go_upto_region 3 with fail
      rw [HWN.out.1, HWN.out.2]
      obtain ⟨x0, x1, x2, x3, _, _, _, _⟩ := tx_cells HXB.out
      have hxl := heap_lt HXB.out
      have HSB := Aside0.mk (by
        have := sback_calls a (Gr R w wr) sp lp pp dp qp mp blocks frames F' id xn ((q ++ rest).headD 0) r hint S' W (HP.out.1.below HBW.out) (HSR.out.below HBW.out) HOR.out HI.out HHB.out.1 HHB.out.2
        rw [HXX.out] at this
        exact this)
      simp only [txV] at HSB
      go_wp2_with fail
      refine HSB.out.mono ?_
      rintro e w3 ⟨rfl, hp3⟩
      have HP3 := Aside0.mk (FwPost.trans HP.out fun _ => hp3.back HBW.out)
      clear hp3 x0 x1 x2 x3 hxl
      go_wp2_with fail
      go_roundg (q.length + 1)
      case measure => have := HD.out.2; simp at this; omega
      case rel => exact ⟨d ++ [xn], q, _, ⟨by rw [HD.out.1, List.append_assoc]; rfl, rfl⟩, HU2, HP3⟩
theorem own_cap {w : World} {base g n c size : Nat} {e : TypeId} {xs : List Value} (h : w.ownsRow base e size (.slice (some ⟨g, 0, none⟩) n c) n xs) : n ≤ c := by
  obtain ⟨_, h2⟩ := h
  rcases h2 with ⟨he, _⟩ | ⟨g', cap, cur, he, _, _, hnc, _⟩
  · cases he
  · injection he with _ _ hc
    omega
theorem back_calls (a : Nat → Addr) (M : Nat → Prop) (bp bm sp lp pp dp qp mp : Nat) (blocks frames : Int) (B : BSt) (n id : Int) (i : Nat) (hint : Int) (N m : Nat) (ch : Int → List Int) (kp : Int → Int) (pre rest : List Int) (w : World) (h : BkM M w bp bm sp lp pp dp qp mp blocks frames B) (hok : FOk N m ch kp B.F) (hof : B.F.of n = id) (hid : thas B.F.ts id = true) (hsv : (B.sv n).txn = id) (hi : i < (B.sv n).l.length) (hi2 : i ≤ 1000) (hto : (B.sv n).l[i]? = some (rest.headD 0)) (hch : ch id = pre ++ rest) (hkp : ∀ x, 0 ≤ kp x) (hm : m + pre.length ≤ 30000) (hfr : B.F.S.frames ≤ 8) (hs : SentsAll w a) (hO : OutAll M a) (h0 : 0 ≤ n) (h1 : n < B.F.sess) (h2 : B.F.sess ≤ 1000) (hnu : B.nu < 1000000) (hh0 : -9223372036854775808 ≤ hint) (hh1 : hint ≤ 9223372036854775807) :
    Calls Tryz.prog 35 #[.pointer (some ⟨bp, 0, none⟩), .int .i64 n, .int .i64 i, .int .i64 hint] w fun e w' => e = .returned .nilIface ∧ ∃ F', UndoR N m ch kp B.F id pre rest F' ∧ BkPost M bp bm sp lp pp dp qp mp blocks frames { F := F', sv := updS B.sv n ⟨id, (B.sv n).l.take (i + 1)⟩, nu := B.nu + 1 } w w' := by
  obtain ⟨R, sl, h⟩ := h
  obtain ⟨R, h, hrc⟩ : ∃ R', BkIn M w bp bm sp lp pp dp qp mp blocks frames B R' sl ∧ ∀ k, R' k → k < w.heap.size := ⟨_, h.cutR, fun k hk => hk.2⟩
  have HRC := Aside0.mk hrc
  have htid : (tget B.F.ts id).id = id := (tget_mem hid).2
  have HC := Aside0.mk (bcalled_calls M R bp bm sp lp pp dp qp mp blocks frames B sl n w h h0 h1 h2 (by rw [hof]; exact hid) hok.t.rise)
  rw [hof, htid] at HC
  have HSL := Aside0.mk (show slOf B sl n id = sl n from by unfold slOf; rw [if_pos hsv])
  rw [HSL.out] at HC
  obtain ⟨g, c, hsl, _, _⟩ := (h.row n).form (by omega)
  obtain ⟨k, hk⟩ : ∃ k, (B.sv n).l.length = k := ⟨_, rfl⟩
  rw [hk] at hsl hi
  have HRW := Aside0.mk (show IS w 0 (.slice (some ⟨g, 0, none⟩) k c) (B.sv n).l from by rw [← hsl]; exact h.row n)
  rw [hsl] at HC HSL
  have HSN := Aside0.mk hsl
  have HH := Aside0.mk h
  have HK := Aside0.mk hk
  have HU := Aside0.mk (fun (V : World) (hb : Below w.heap.size w V) => by
    exact undo_calls a M R bp bm sp lp pp dp qp mp blocks frames B sl id (rest.headD 0) hint N m ch kp pre rest V (h.below hb) hok hid hch rfl hkp hm hfr (hs.below hb) hO hh0 hh1)
  obtain ⟨tg, htg⟩ : ∃ t, rest.headD 0 = t := ⟨_, rfl⟩
  rw [htg] at HU hto
  obtain ⟨x, hxx⟩ : ∃ x, tget B.F.ts id = x := ⟨_, rfl⟩
  rw [hxx] at HC htid
  obtain ⟨xi, xs, xl, xn⟩ := x
  simp only at htid
  subst htid
  have HWF := Aside0.mk (And.intro h0 (And.intro h1 h2))
  have HNU := Aside0.mk hnu
  have HTO := Aside0.mk hto
  have hd0 : decide ((i : Int) < 0) = false := decide_eq_false (by omega)
  have hd1 : decide ((k : Int) ≤ (i : Int)) = false := decide_eq_false (by omega)
  have hd2 : decide (k ≤ i) = false := decide_eq_false (by omega)
  simp only [txV, svV] at HC
  clear h hok hof hid hsv hto hch hkp hm hfr hs hO h0 h1 h2 hnu hh0 hh1 hxx hsl hk htg hrc
  go_enter Tryz.func35, Tryz.ntmps35
  go_wp2_with fail
  refine HC.out.mono ?_
  rintro e w1 ⟨rfl, hb⟩
  obtain ⟨W, hW⟩ : ∃ W, (w1.alloc (.cells #[.int .i64 xi, .int .i64 xs, .int .i64 xl, .int .i64 xn] 102)).alloc (.cells #[.int .i64 xi, .slice (some ⟨g, 0, none⟩) k c] 148) = W := ⟨_, rfl⟩
  have HBW := Aside0.mk (show Below w.heap.size w W from below_step hb (show Below w1.heap.size w1 W by rw [← hW]; repeat (first | exact Below.refl _ _ | apply below_alloc)))
  obtain ⟨bx, hbx⟩ : ∃ b, w1.heap.size = b := ⟨_, rfl⟩
  obtain ⟨bs, hbs⟩ : ∃ b, w1.heap.size + 1 = b := ⟨_, rfl⟩
  have HXB := Aside0.mk (show W.heap[bx]? = some (.cells #[.int .i64 xi, .int .i64 xs, .int .i64 xl, .int .i64 xn] 102 (0, 0)) from by
    rw [← hW, ← hbx]
    exact (Below.heap_alloc _ _ _ (by show _ < (w1.heap.push _).size; rw [Array.size_push]; omega)).trans (heap_alloc_new w1 _))
  have HSB := Aside0.mk (show W.heap[bs]? = some (.cells #[.int .i64 xi, .slice (some ⟨g, 0, none⟩) k c] 148 (0, 0)) from by
    rw [← hW, ← hbs]
    exact ChangeT.alloc_at _ _ (show (w1.alloc _).heap.size = w1.heap.size + 1 from by show (w1.heap.push _).size = _; rw [Array.size_push]))
  have hszW : W.heap.size = w1.heap.size + 2 := by rw [← hW]; show ((w1.heap.push _).push _).size = _; rw [Array.size_push, Array.size_push]
  have hbw : w.heap.size ≤ w1.heap.size := hb.size
  have HWN := Aside0.mk (And.intro hW (And.intro hbx hbs))
  have hbs1 : w.heap.size ≤ bx ∧ bx + 1 = bs ∧ bs + 1 = W.heap.size := by omega
  clear hW hb hbx hbs hszW hbw
  go_upto_region 2 with fail
  rw [HWN.out.1, HWN.out.2.2, HWN.out.2.1]
  obtain ⟨x0, x1, x2, x3, _, _, _, _⟩ := tx_cells HXB.out
  have hxl := heap_lt HXB.out
  obtain ⟨e0, e1, s0, s1⟩ := sv_cells HSB.out
  have hsl := heap_lt HSB.out
  go_upto_region 6 with fail
  have hcell : W.cell? ⟨g, i, none⟩ = some (.int .i64 tg) := by
    have := (HRW.out.below HBW.out)
    unfold IS at this
    rw [HK.out] at this
    rw [World.ownsRow.cellAt this i (by omega), List.getElem?_map, HTO.out]
    rfl
  have hik : (i : Int) < (k : Int) := by omega
  have HBI := Aside0.mk (HH.out.below HBW.out)
  clear e0 e1
  go_cut [12] (fun v12 wx => v12 = .nilIface ∧ ∃ F', Aside0 (UndoR N m ch kp B.F xi pre rest F') ∧ Aside0 (FwPost R sp lp pp dp qp mp blocks frames F' W wx))
  case first =>
    go_region_law (first
      | (go_simp; go_at_call 89; refine (HU.out _ (by repeat (first | exact HBW.out | apply below_drew1))).mono ?_; rintro e w3 ⟨rfl, F', hu, hp⟩; have HUF := Aside0.mk hu; have HPF := Aside0.mk hp; clear hu hp))
    all_goals
      go_wp2_with fail
      go_meet
      exact ⟨rfl, F', HUF, ⟨HPF.out.back (by repeat (first | exact Below.refl _ _ | apply below_drew1))⟩⟩
  case rest =>
    obtain ⟨rfl, F', HUF, HPF⟩ := hcut
    generalize wc = Z0 at HPF ⊢
    clear x0 x1 x2 x3 hxl s0 s1 hsl hcell hik hd0 hd1 hd2
    have HZI := Aside0.mk (BkIn.fwI HBI.out HPF.out)
    have HS0 := Aside0.mk (show Z0.heap[bs]? = some (.cells #[.int .i64 xi, .slice (some ⟨g, 0, none⟩) k c] 148 (0, 0)) from HPF.out.2.at HSB.out (fun hr => by have := HRC.out bs hr; omega))
    have HOW := Aside0.mk (show Z0.ownsRow 0 3 1 (.slice (some ⟨g, 0, none⟩) (i + 1) c) (i + 1) (((B.sv n).l.map (.int .i64)).take ((i + 1) * 1)) from by
      have h1 := HZI.out.1.row n
      have h2 : sl n = .slice (some ⟨g, 0, none⟩) k c := HSN.out
      rw [h2] at h1
      have h3 : Z0.ownsRow 0 3 1 (.slice (some ⟨g, 0, none⟩) k c) k ((B.sv n).l.map (.int .i64)) := by
        have h4 : IS Z0 0 (.slice (some ⟨g, 0, none⟩) k c) (B.sv n).l := h1
        unfold IS at h4
        rw [HK.out] at h4
        exact h4
      exact own_take h3 (by omega))
    have hcap : i + 1 ≤ c := own_cap HOW.out
    have HON := Aside0.mk (show IS Z0 0 (.slice (some ⟨g, 0, none⟩) (i + 1) c) ((B.sv n).l.take (i + 1)) from by
      unfold IS
      have h1 := HOW.out
      have hl : ((B.sv n).l.take (i + 1)).length = i + 1 := by rw [List.length_take, HK.out]; omega
      rw [hl, List.map_take, Nat.mul_one] at *
      exact h1)
    have hw1 : IntKind.i64.wrap ((i : Int) + 1) = (i : Int) + 1 := by rw [IntKind.wrap_i64]; omega
    have hw2 : ((i : Int) + 1).toNat = i + 1 := by omega
    have hw3 : (i : Int) + 1 ≤ (c : Int) := by omega
    have hw4 : (0 : Int) ≤ (i : Int) + 1 := by omega
    obtain ⟨e0, e1, s0, s1⟩ := sv_cells HS0.out
    have hsl := heap_lt HS0.out
    go_upto_region 10 with fail
    obtain ⟨V, hV⟩ : ∃ V, Z0.setCell ⟨bs, 1, none⟩ (.slice (some ⟨g, 0, none⟩) (i + 1) c) = V := ⟨_, rfl⟩
    have HSV := Aside0.mk (show V.heap[bs]? = some (.cells #[.int .i64 xi, .slice (some ⟨g, 0, none⟩) (i + 1) c] 148 (0, 0)) from by
      have h1 := heap_setCell_same Z0 bs 1 _ _ (.slice (some ⟨g, 0, none⟩) (i + 1) c) HS0.out
      rw [hV] at h1
      exact h1)
    have hfar : ∀ j, j ≠ bs → V.heap[j]? = Z0.heap[j]? := fun j hj => by rw [← hV]; exact Below.heap_setCell _ _ _ _ hj
    have hszV : V.heap.size = Z0.heap.size := by rw [← hV]; simp [World.setCell]
    have hZs : W.heap.size ≤ Z0.heap.size := HPF.out.2.size
    have HBV := Aside0.mk (show Below w.heap.size Z0 V by rw [← hV]; exact (Below.refl _ _).setCell (by show w.heap.size ≤ bs; omega) _)
    have hbm : bs ≠ bm := fun e => by
      obtain ⟨es, cl, hm⟩ := HH.out.map.map
      have := heap_lt hm
      omega
    have hbp : bs ≠ bp := fun e => by have := heap_lt HH.out.box; omega
    have HVI := Aside0.mk (BkIn.but (w' := V) HZI.out.1 hfar (fun hr => by
      rcases hr with hr | ⟨h1, _⟩
      · have := HRC.out bs hr; omega
      · omega) (by rw [tag_of HS0.out]; decide) hbp hbm (by rw [tag_of HS0.out]; decide))
    have HOV := Aside0.mk (show IS V 0 (.slice (some ⟨g, 0, none⟩) (i + 1) c) ((B.sv n).l.take (i + 1)) from ow_move HON.out fun j hj => hfar j fun e => by
      obtain ⟨_, cc, hcc⟩ := ow_block HON.out hj
      rw [e, HS0.out] at hcc
      injection hcc with hcc
      injection hcc with _ h2
      exact absurd h2 (by decide))
    rw [hV]
    clear hV e0 e1 s0 s1 hsl hfar
    have hbB := HVI.out.box
    have hn0 : -9223372036854775808 ≤ n ∧ n ≤ 9223372036854775807 := by have := HWF.out; omega
    obtain ⟨wa, hra, hsa, hga⟩ := SvM.put HVI.out.map (s := n) (v := svV xi (.slice (some ⟨g, 0, none⟩) (i + 1) c)) hn0.1 hn0.2 HNU.out
    obtain ⟨wb, hrb, hsb, hgb2⟩ := SvM.put (w := V.drew) HVI.out.map (s := n) (v := svV xi (.slice (some ⟨g, 0, none⟩) (i + 1) c)) hn0.1 hn0.2 HNU.out
    have HSA := Aside0.mk hsa
    have HGA := Aside0.mk hga
    have HSB2 := Aside0.mk hsb
    have HGB2 := Aside0.mk (show V.grownBy wb (some bm) from ⟨hgb2.os, hgb2.tape, hgb2.output, hgb2.size, hgb2.block⟩)
    simp only [svV] at hra hrb
    have j1 : V.cell? ⟨bp, 1, none⟩ = some (.map (some bm)) := by simp [World.cell?, hbB]
    have hbpl := heap_lt hbB
    obtain ⟨_, _, s0, s1⟩ := sv_cells HSV.out
    have hsl := heap_lt HSV.out
    clear hsa hga hsb hgb2 hbB hn0
    go_cut [] (fun wx => Aside0 (SvM wx bm (B.nu + 1) (fun t => if t = n then svV xi (.slice (some ⟨g, 0, none⟩) (i + 1) c) else svV (B.sv t).txn (sl t))) ∧ Aside0 (V.grownBy wx (some bm)))
    case first =>
      go_region_law (fail)
      all_goals
        go_wp2_with fail
        go_meet
        exact ⟨HSB2, HGB2⟩
    case rest =>
      obtain ⟨HSX, HGX⟩ := hcut
      generalize wc = Z at HSX HGX ⊢
      clear hra hrb s0 s1 hsl j1 hbpl
      have hslF : slOf { B with F := F' } sl n xi = .slice (some ⟨g, 0, none⟩) k c := HSL.out
      have HFIN := Aside0.mk (BkIn.put (w' := Z) (n := n) (id := xi) (t := xi) (v' := .slice (some ⟨g, 0, none⟩) (i + 1) c) (xs' := (B.sv n).l.take (i + 1)) (nu := B.nu + 1) HVI.out
        ⟨HGX.out.os, HGX.out.tape, HGX.out.output⟩ HGX.out.size
        (fun j hj hne2 hn2 => HGX.out.block j hj (fun e => hne2 (by injection e))) HSX.out
        (ow_move HOV.out fun j hj => HGX.out.block j (by
          obtain ⟨_, cc, hcc⟩ := ow_block HOV.out hj
          exact heap_lt hcc) (fun e => by
          have e2 : j = bm := by injection e
          obtain ⟨es, cl, hm⟩ := HVI.out.map.map
          obtain ⟨_, cc, hcc⟩ := ow_block HOV.out hj
          rw [e2, hm] at hcc
          cases hcc))
        (fun g2 hg2 => .inl (by rw [hslF]; exact hg2)))
      have HKZ := Aside0.mk (Kp.then ((Kp.of_below HBW.out).trans HZI.out.2) HBV.out)
      have hws : w.heap.size ≤ W.heap.size := HBW.out.size
      have hzz := HGX.out.size
      have HALL := Aside0.mk (show BkPost M bp bm sp lp pp dp qp mp blocks frames { F := F', sv := updS B.sv n ⟨xi, (B.sv n).l.take (i + 1)⟩, nu := B.nu + 1 } w Z from by
        obtain ⟨p1, p2⟩ := HFIN.out
        refine ⟨BkM.mono p1 fun j hj => ?_, HKZ.out.transG (p2.wide fun j hj => ?_)⟩
        · rcases hj with (hj | ⟨h1, h2⟩) | ⟨h1, h2⟩
          · exact .inl hj
          · exact .inr ⟨by omega, by omega⟩
          · exact .inr ⟨by omega, h2⟩
        · rcases hj with hj | ⟨h1, h2⟩
          · exact .inl hj
          · exact .inr ⟨by omega, by omega⟩)
      go_wp2_with fail
      go_ret
      exact ⟨rfl, F', HUF.out, HALL.out⟩
end Go.Proofs.YtaplpeoikebedaaGreatDoor.BackU
namespace Go.Proofs.YtaplpeoikebedaaGreatDoor.StoreK
open Go.RowKit See Mem Page PageB PageR PageL Disk DiskW RecD Dirty Dirty2 SysD SysM Wal WalF GoodD PoolG PoolS FlushG Fresh DirtD Pager StoreD PageM StoreF StoreG StoreH StoreI StoreJ
theorem sum_ge {f : Tx → Int} : ∀ {l : List Tx} {x : Tx}, x ∈ l → (∀ y ∈ l, 0 ≤ f y) → f x ≤ (l.map f).sum
  | [], x, hx, _ => (List.not_mem_nil hx).elim
  | y :: l, x, hx, hf => by
    have hn : ∀ z : List Tx, (∀ y ∈ z, 0 ≤ f y) → 0 ≤ (z.map f).sum := fun z => by
      induction z with
      | nil => intro _; simp
      | cons a aa ih =>
        intro h
        have h1 := h a List.mem_cons_self
        have h2 := ih fun y hy => h y (List.mem_cons_of_mem _ hy)
        rw [List.map_cons, List.sum_cons]
        omega
    rw [List.map_cons, List.sum_cons]
    rcases List.mem_cons.1 hx with rfl | hx
    · have := hn l fun z hz => hf z (List.mem_cons_of_mem _ hz)
      omega
    · have h1 := sum_ge hx fun z hz => hf z (List.mem_cons_of_mem _ hz)
      have h2 := hf y List.mem_cons_self
      omega
theorem kept_ge {N m : Nat} {ch : Int → List Int} {kp : Int → Int} {F : FS} {id : Int} (h : FOk N m ch kp F) (hid : thas F.ts id = true) (hpos : ∀ x, 0 ≤ kp x) : kp id + ((ch id).length : Int) ≤ F.kept := by
  obtain ⟨hx, hxid⟩ := tget_mem hid
  have := sum_ge (f := fun x => kp x.id + ((ch x.id).length : Int)) hx fun y _ => by have := hpos y.id; show 0 ≤ kp y.id + ((ch y.id).length : Int); omega
  rw [← h.c.kept] at this
  rw [hxid] at this
  exact this
end Go.Proofs.YtaplpeoikebedaaGreatDoor.StoreK
namespace Go.Proofs.YtaplpeoikebedaaGreatDoor.BackA
open Go.RowKit See Mem RecD Dirty Wal WalF PoolG PoolS SysD SysM FlushG Pager StoreD PageM StoreF StoreG StoreH StoreI StoreJ StoreK BackD BackL FwdL
theorem updk_pos {kp : Int → Int} (h : ∀ x, 0 ≤ kp x) (id : Int) : ∀ x, 0 ≤ updk kp id 1 x := fun x => by
  unfold updk
  by_cases e : x = id
  · rw [if_pos e]; omega
  · rw [if_neg e]; exact h x
structure MarkIn (N m : Nat) (ch : Int → List Int) (kp : Int → Int) (F : FS) (id : Int) : Prop where
  kept : 1 ≤ F.kept
  room : 1 ≤ F.S.l.room
  rec5 : recOk (recMark (tget F.ts id) 5) = true
  rise1 : Rising (kvT (tnote F.ts id (F.S.l.last + 1) (tget F.ts id).next))
  has1 : thas (tnote F.ts id (F.S.l.last + 1) (tget F.ts id).next) id = true
  ok : FOk N m ch (updk kp id 1) (markF F id 5 2)
  has2 : thas (markF F id 5 2).ts id = true
  vals_ : ∀ j, vals (markF F id 5 2) j = vals F j
  old : ∀ n r, recOf F.S.l n = some r → recOf (markF F id 5 2).S.l n = some r
theorem mark_in {N m : Nat} {ch : Int → List Int} {kp : Int → Int} {F : FS} {id : Int} (h : FOk N m ch kp F) (hid : thas F.ts id = true) (hkp : kp id = 2) (hpos : ∀ x, 0 ≤ kp x) : MarkIn N m ch kp F id := by
  obtain ⟨ro1, ro2, ro3⟩ := h.g.room
  have hk := kept_ge h hid hpos
  rw [hkp] at hk
  have hroom : 1 ≤ F.S.l.room := by omega
  obtain ⟨m1, m2⟩ := mark_ok (kind := 5) (st := 2) h hid (.inr rfl) hkp hroom (by omega)
  have hr1 := tnote_rise (id := id) (l := F.S.l.last + 1) (n := (tget F.ts id).next) h.t.rise
  have hh1 : thas (tnote F.ts id (F.S.l.last + 1) (tget F.ts id).next) id = true := by
    rw [thas_ids hr1, ids_tnote, ← thas_ids h.t.rise]; exact hid
  refine ⟨by omega, hroom, m1, hr1, hh1, m2, ?_, fun j => rfl, fun n r hn => addRec_rec hn⟩
  show thas (tstate (tnote F.ts id (F.S.l.last + 1) (tget F.ts id).next) id 2) id = true
  rw [thas_ids (tstate_rise hr1), ids_tstate, ← thas_ids hr1]; exact hh1
structure AbortR (N m : Nat) (ch : Int → List Int) (kp : Int → Int) (F : FS) (n id : Int) (F' : FS) : Prop where
  ok : FOk N (m + (ch id).length) (updc ch id []) (updk kp id 1) F'
  vals_ : ∀ j, vals F' j = rewV F.S.l (ch id) (vals F) j
  same : F'.P = F.P ∧ F'.sess = F.sess ∧ F'.ks = [] ∧ F'.most = F.most ∧ F'.of = upd F.of n 0 ∧ F'.free = F.free ∧ F'.S.frames = F.S.frames
structure EndIn (F : FS) (id : Int) : Prop where
  has_ : thas F.ts id = true
  rise : Rising (kvT F.ts)
  tid : (tget F.ts id).id = id
  kept : 1 ≤ F.kept ∧ F.kept ≤ 1073741824
  rec6 : recOk (recMark (tget F.ts id) 6) = true
  room : 1 ≤ F.S.l.room
theorem abort_end {N m : Nat} {ch : Int → List Int} {kp : Int → Int} {F F2 : FS} {n id : Int} (h : FOk N m ch kp F) (hof : F.of n = id) (hpos : ∀ x, 0 ≤ kp x) (hall : ∀ x ∈ F.ks, x.s = n) (hm : MarkIn N m ch kp F id) (hu : UndoR N m ch (updk kp id 1) (markF F id 5 2) id (ch id) [] F2) :
    EndIn F2 id ∧ AbortR N m ch kp F n id (leaveF F2 n id) := by
  obtain ⟨s1, s2, s3, s4, s5, s6, s7⟩ := hu.same
  have hof2 : F2.of n = id := by rw [s5]; exact hof
  obtain ⟨e1, e2, e3, e4⟩ := end_ok (n := n) hu.ok hu.has_ hof2 (by unfold updk; rw [if_pos rfl]) (updk_pos hpos id)
  have hc : updc ch id [] id = [] := by unfold updc; rw [if_pos rfl]
  rw [hc] at e2 e4
  have hk2 : F2.ks = F.ks := s3
  have hfr : freeL F2.ks n = [] := by
    unfold freeL
    rw [List.filter_eq_nil_iff]
    intro x hx
    rw [hk2] at hx
    simp [hall x hx]
  have hroom := hu.ok.g.room
  have hlr : F2.S.l.room ≤ 1073741824 := by unfold Lg.room; have := hu.ok.g.lok.base; unfold Lg.last; omega
  have hE : endF F2 n id ((([] : List Int).length : Nat) : Int) = leaveF F2 n id := by
    unfold endF leaveF
    rw [hfr]
    simp
  rw [hE] at e4
  refine ⟨⟨hu.has_, hu.ok.t.rise, (tget_mem hu.has_).2, ⟨by simp at e2; omega, by omega⟩, e1, e3⟩, ⟨e4, fun j => ?_, ⟨s1, s2, rfl, s4, ?_, s6, s7⟩⟩⟩
  · show vals F2 j = _
    rw [hu.vals_ j]
    have hkeep := rewV_keep (L := F.S.l) (L' := (markF F id 5 2).S.l) hm.old (ch id) (vals (markF F id 5 2)) (fun k hk => by
      obtain ⟨hx, hxid⟩ := tget_mem (show thas F.ts id = true from by
        have := hm.has1
        rw [thas_ids hm.rise1, ids_tnote, ← thas_ids h.t.rise] at this
        exact this)
      have := (h.c.last _ hx).1.at_ k (by rw [hxid]; exact hk)
      obtain ⟨_, r, hr, _⟩ := this
      exact ⟨r, hr⟩)
    rw [hkeep]
    have : vals (markF F id 5 2) = vals F := funext hm.vals_
    rw [this]
  · show upd F2.of n 0 = _
    rw [s5]
    rfl
end Go.Proofs.YtaplpeoikebedaaGreatDoor.BackA
namespace Go.Proofs.YtaplpeoikebedaaGreatDoor.BackB
open Go.RowKit Go.Maps YtaplpeoikebedaaGreatDoorW.PrintWords YtaplpeoikebedaaGreatDoorW.PrintLast YtaplpeoikebedaaGreatDoorW.PrintMore
open See Mem Clone Go.Proofs.YtaplpeoikebedaaGreatDoor.Cell Page PageB PageR Disk Dirty Pool2 RecD Rec Wal WalF PoolG PoolS SysD SysM StoreD StoreF StoreH TransT LockT LockU SpaceT WaitT FwdM FwdP FwdC FwdE FwdT FwdB EndT FwdL BackD BackL BackA BackM BackW BackV BackU
attribute [local go_sem] max2_imax min2_imin max_two min_two
theorem sv_del {w' : World} {bm n : Nat} {D : DataW Value} {m : Int} {vv : Int → Value} {s : Int} (hat : ∀ s : Int, D.atKey (.int .i64 s) (.held svz) = .held (vv s)) (h' : w'.ownsMap Tryz.prog 3 rS bm n (D.del (.int .i64 s))) (hn : (n : Int) ≤ m) : SvM w' bm m (fun t => if t = s then svz else vv t) := by
  refine ⟨n, _, h', hn, fun t => ?_⟩
  show _ = DataW.held (if t = s then svz else vv t)
  by_cases e : t = s
  · rw [if_pos e, e]
    exact atKey_del_same _
  · rw [if_neg e, atKey_del_other (fun h => e (by injection h)), hat]
theorem abort_calls (a : Nat → Addr) (M : Nat → Prop) (bp bm sp lp pp dp qp mp : Nat) (blocks frames : Int) (B : BSt) (n id hint : Int) (N m : Nat) (ch : Int → List Int) (kp : Int → Int) (w : World) (h : BkM M w bp bm sp lp pp dp qp mp blocks frames B) (hok : FOk N m ch kp B.F) (hof : B.F.of n = id) (hid : thas B.F.ts id = true) (hkp2 : kp id = 2) (hkp : ∀ x, 0 ≤ kp x) (hall : ∀ x ∈ B.F.ks, x.s = n) (hm : m + (ch id).length ≤ 30000) (hfr : B.F.S.frames ≤ 8) (hs : SentsAll w a) (hO : OutAll M a) (h0 : 0 ≤ n) (h1 : n < B.F.sess) (h2 : B.F.sess ≤ 1000) (hh0 : -9223372036854775808 ≤ hint) (hh1 : hint ≤ 9223372036854775807) :
    Calls Tryz.prog 34 #[.pointer (some ⟨bp, 0, none⟩), .int .i64 n, .int .i64 hint] w fun e w' => e = .returned .nilIface ∧ ∃ F', AbortR N m ch kp B.F n id F' ∧ BkPost M bp bm sp lp pp dp qp mp blocks frames { F := F', sv := updS B.sv n ⟨0, []⟩, nu := B.nu } w w' := by
  obtain ⟨R, sl, h⟩ := h
  obtain ⟨R, h, hrc⟩ : ∃ R', BkIn M w bp bm sp lp pp dp qp mp blocks frames B R' sl ∧ ∀ k, R' k → k < w.heap.size := ⟨_, h.cutR, fun k hk => hk.2⟩
  have HRC := Aside0.mk hrc
  have hroom := hok.g.room
  have hmk := mark_in hok hid hkp2 hkp
  have htid : (tget B.F.ts id).id = id := (tget_mem hid).2
  have HC := Aside0.mk (called_calls R sp lp pp dp qp mp blocks frames B.F n w h.f h0 h1 h2 (by rw [hof]; exact hid) hok.t.rise)
  rw [hof] at HC
  have HH := Aside0.mk h
  have HMK := Aside0.mk hmk
  have HOK := Aside0.mk hok
  have HKB := Aside0.mk (show 1 ≤ B.F.kept ∧ B.F.kept ≤ 1073741824 from ⟨hmk.kept, (room_top hok.g).2⟩)
  have HS := Aside0.mk hs
  have HO := Aside0.mk hO
  have HOR := Aside0.mk (OutAll.sub (M' := R) hO fun k hk => (h.r k hk).1)
  have HOF := Aside0.mk hof
  have HID := Aside0.mk hid
  have HKP := Aside0.mk hkp
  have HALL := Aside0.mk hall
  have HM := Aside0.mk hm
  have HFR := Aside0.mk hfr
  have HHB := Aside0.mk (And.intro hh0 hh1)
  have HWF := Aside0.mk (And.intro h0 (And.intro h1 h2))
  obtain ⟨x, hxx⟩ : ∃ x, tget B.F.ts id = x := ⟨_, rfl⟩
  have HXX := Aside0.mk hxx
  rw [hxx] at HC htid
  obtain ⟨xi, xs, xl, xn⟩ := x
  simp only at htid
  subst htid
  simp only [txV] at HC
  have c0 := h.cells.1
  have hbl := heap_lt h.box
  clear h hok hof hid hkp2 hkp hall hm hfr hs hO h0 h1 h2 hh0 hh1 hxx hrc hroom hmk
  go_enter Tryz.func34, Tryz.ntmps34
  go_wp2_with fail
  refine HC.out.mono ?_
  rintro e w1 ⟨rfl, hb⟩
  obtain ⟨W, hW⟩ : ∃ W, w1.alloc (.cells #[.int .i64 xi, .int .i64 xs, .int .i64 xl, .int .i64 xn] 102) = W := ⟨_, rfl⟩
  have HBW := Aside0.mk (show Below w.heap.size w W from below_step hb (show Below w1.heap.size w1 W by rw [← hW]; exact below_alloc (Below.refl _ _) _))
  obtain ⟨bx, hbx⟩ : ∃ b, w1.heap.size = b := ⟨_, rfl⟩
  have HXB := Aside0.mk (show W.heap[bx]? = some (.cells #[.int .i64 xi, .int .i64 xs, .int .i64 xl, .int .i64 xn] 102 (0, 0)) from by rw [← hW, ← hbx]; exact heap_alloc_new _ _)
  have HWN := Aside0.mk (And.intro hW hbx)
  have hbxw : w.heap.size ≤ bx := by have := hb.size; omega
  clear hW hb hbx c0 hbl
  go_upto_region 2 with fail
  rw [HWN.out.1, HWN.out.2]
  have HLB0 := Aside0.mk (LB.start HH.out.f HBW.out)
  have hbB : W.heap[bp]? = some (.cells #[.pointer (some ⟨sp, 0, none⟩), .map (some bm)] 61 (0, 0)) := (HBW.out.block _ (heap_lt HH.out.box)).trans HH.out.box
  have c0 : W.cell? ⟨bp, 0, none⟩ = some (.pointer (some ⟨sp, 0, none⟩)) := by simp [World.cell?, hbB]
  have hbl := heap_lt hbB
  obtain ⟨x0, x1, x2, x3, _, _, _, _⟩ := tx_cells HXB.out
  have hxl := heap_lt HXB.out
  have HBB := Aside0.mk hbB
  have HAP := Aside0.mk (show ∀ (V : World), Below W.heap.size W V → Calls Tryz.prog 74 #[.pointer (some ⟨sp, 0, none⟩), recV (recMark ⟨xi, xs, xl, xn⟩ 5)] V (fun e w' => e = .returned (.tuple #[.int .i64 (B.F.S.l.last + 1), .nilIface]) ∧ ∃ R', LB R sp lp pp dp qp mp blocks frames (addK B.F (recMark ⟨xi, xs, xl, xn⟩ 5)) w W R' w') from fun V hbl => by
    have hl := HLB0.out.below hbl
    obtain ⟨hs1, hs2⟩ := hl.sents HS.out HOR.out
    have := fappend_calls a _ sp lp pp dp qp mp blocks frames B.F (recMark ⟨xi, xs, xl, xn⟩ 5) V hl.f hs1 hs2 HKB.out (by rw [← HXX.out]; exact HMK.out.rec5) HMK.out.room
    exact this.mono fun e w' hh => ⟨hh.1, _, hl.step hh.2⟩)
  simp only [recV, recMark] at HAP
  clear hbB
  go_upto_region 4 with fail
  go_cut [9, 8] (fun v9 v8 wx => v9 = .int .i64 (B.F.S.l.last + 1) ∧ v8 = .nilIface ∧ ∃ R', Aside0 (LB R sp lp pp dp qp mp blocks frames (addK B.F (recMark ⟨xi, xs, xl, xn⟩ 5)) w W R' wx))
  case first =>
    go_region_law (first
      | (go_simp; go_at_call 74; refine (HAP.out _ (by repeat (first | exact Below.refl _ _ | apply below_drew1))).mono ?_; rintro e w3 ⟨rfl, R', hl⟩; have HL := Aside0.mk hl; clear hl))
    all_goals
      go_wp2_with fail
      go_meet
      exact ⟨rfl, rfl, R', HL⟩
  case rest =>
    obtain ⟨rfl, rfl, R1, HL1⟩ := hcut
    generalize wc = V1 at HL1 ⊢
    clear c0 hbl x0 x1 x2 x3 hxl HAP
    have nbp : ∀ {R' : Nat → Prop} {V : World} {F1 : FS}, LB R sp lp pp dp qp mp blocks frames F1 w W R' V → V.heap[bp]? = some (.cells #[.pointer (some ⟨sp, 0, none⟩), .map (some bm)] 61 (0, 0)) := fun hl => hl.k.at HH.out.box (fun hr => (HH.out.r bp hr).2.1 rfl)
    have HBP := Aside0.mk @nbp
    have hbB := nbp HL1.out
    clear nbp
    have c0 : V1.cell? ⟨bp, 0, none⟩ = some (.pointer (some ⟨sp, 0, none⟩)) := by simp [World.cell?, hbB]
    have hbl := heap_lt hbB
    clear hbB
    go_wp2_with fail
    refine (parts_calls _ sp lp pp dp qp mp blocks frames _ V1 HL1.out.f).mono ?_
    rintro e V2 ⟨rfl, hb2⟩
    have HL2 := Aside0.mk (HL1.out.below hb2)
    clear hb2 c0 hbl
    obtain ⟨cs, tv, htx, hput⟩ := FwM.txs HL2.out.f HOK.out.t.rise
    have HTX := Aside0.mk htx
    have HPT := Aside0.mk hput
    clear htx hput
    obtain ⟨x0, x1, x2, x3, _, _, _, _⟩ := tx_cells (HL2.out.at HXB.out hbxw)
    have hxl := heap_lt (HL2.out.at HXB.out hbxw)
    go_wp2_with fail
    refine (tnote_calls _ sp 8 118 cs tv B.F.ts B.F.most xi (B.F.S.l.last + 1) xn _ HTX.out HID.out).mono ?_
    rintro e V3 ⟨rfl, hpost⟩
    have HL3 := Aside0.mk (HL2.out.step (HPT.out _ _ _ (Int.le_refl _) hpost))
    clear hpost x0 x1 x2 x3 hxl HTX HPT
    have hr1 : Rising (kvT (tnote B.F.ts xi (B.F.S.l.last + 1) xn)) := by have := HMK.out.rise1; rw [HXX.out] at this; exact this
    have hh1 : thas (tnote B.F.ts xi (B.F.S.l.last + 1) xn) xi = true := by have := HMK.out.has1; rw [HXX.out] at this; exact this
    obtain ⟨cs, tv, htx, hput⟩ := FwM.txs HL3.out.f hr1
    have HTX := Aside0.mk htx
    have HPT := Aside0.mk hput
    have HH1 := Aside0.mk hh1
    clear htx hput hr1 hh1
    obtain ⟨x0, x1, x2, x3, _, _, _, _⟩ := tx_cells (HL3.out.at HXB.out hbxw)
    have hxl := heap_lt (HL3.out.at HXB.out hbxw)
    go_wp2_with fail
    refine (tstate_calls _ sp 8 118 cs tv (tnote B.F.ts xi (B.F.S.l.last + 1) xn) B.F.most xi 2 _ HTX.out HH1.out).mono ?_
    rintro e V4 ⟨rfl, hpost⟩
    have HL4 := Aside0.mk (HL3.out.step (HPT.out _ _ _ (Int.le_refl _) hpost))
    clear hpost x0 x1 x2 x3 hxl HTX HPT
    have HF4 := Aside0.mk (show FwPost R sp lp pp dp qp mp blocks frames (markF B.F xi 5 2) w V4 from by
      have h4 := HL4.out.post
      have e : markF B.F xi 5 2 = { B.F with S := addRec B.F.S (recMark ⟨xi, xs, xl, xn⟩ 5), ts := tstate (tnote B.F.ts xi (B.F.S.l.last + 1) xn) xi 2, kept := B.F.kept - 1 } := by
        unfold markF
        rw [HXX.out]
      rw [e]
      exact h4)
    have HI4 := Aside0.mk (BkIn.fwI HH.out HF4.out)
    have HS4 := Aside0.mk (SentsAll.kp HS.out HI4.out.2 HO.out)
    have HO4 := Aside0.mk (OutAll.gr (w' := V4) HO.out HS.out)
    have HUN := Aside0.mk (undo_calls a (Gr M w V4) (Gr R w V4) bp bm sp lp pp dp qp mp blocks frames { B with F := markF B.F xi 5 2 } sl xi 0 hint N m ch (updk kp xi 1) (ch xi) [] V4 HI4.out.1 HMK.out.ok HMK.out.has2 (by simp) rfl (updk_pos HKP.out xi) HM.out HFR.out HS4.out HO4.out HHB.out.1 HHB.out.2)
    obtain ⟨x0, x1, x2, x3, _, _, _, _⟩ := tx_cells (HL4.out.at HXB.out hbxw)
    have hxl := heap_lt (HL4.out.at HXB.out hbxw)
    go_wp2_with fail
    refine HUN.out.mono ?_
    rintro e V5 ⟨rfl, F2, hu, hp⟩
    have HU := Aside0.mk hu
    have HI5 := Aside0.mk (BkIn.fwI HI4.out.1 hp)
    clear hu hp x0 x1 x2 x3 hxl
    obtain ⟨hend, habr⟩ := abort_end HOK.out HOF.out HKP.out HALL.out HMK.out HU.out
    have HEND := Aside0.mk hend
    have HABR := Aside0.mk habr
    clear hend habr
    obtain ⟨n0, D, hown, hn0, hat⟩ := HI5.out.1.map
    have HOWN := Aside0.mk hown
    have HAT := Aside0.mk hat
    have HN0 := Aside0.mk hn0
    have HWN2 := Aside0.mk (wf64 (n := n) (by have := HWF.out; omega) (by have := HWF.out; omega))
    obtain ⟨c0, c1⟩ := HI5.out.1.cells
    have hbl := heap_lt HI5.out.1.box
    clear hown hat hn0
    go_upto_region 14 with (first | (at_delete; refine wpList_delete_own _ rfl _ _ 59 3 rfl 148 (int_keyed Tryz.underlying3) Tryz.underlying59 _ bm n0 D rfl HOWN.out _ _ rfl (keyOf_int_mk Tryz.underlying3 HWN2.out) ?_; intro V6 hown6 hg6))
    have HS6 := Aside0.mk (sv_del HAT.out hown6 HN0.out)
    have HG6 := Aside0.mk hg6.grown
    clear hown6 hg6 c0 c1 hbl
    have HP6 := Aside0.mk (BkIn.put (w' := V6) (n := n) (id := xi) (t := 0) (v' := .slice none 0 0) (xs' := []) (nu := B.nu) HI5.out.1
      ⟨HG6.out.os, HG6.out.tape, HG6.out.output⟩ HG6.out.size (fun j hj hne2 _ => HG6.out.block j hj (fun e => hne2 (by injection e))) HS6.out (IS.nil _ _)
      (fun g hg => by simp [Value.ownBlock] at hg))
    obtain ⟨⟨R6, sl6, h6⟩, hk6⟩ := HP6.out
    have H6 := Aside0.mk h6
    have HK6 := Aside0.mk hk6
    clear h6 hk6 HP6
    have HM6 := Aside0.mk (show Kp M w V6 from HI4.out.2.transG (HI5.out.2.transG HK6.out))
    have HS7 := Aside0.mk (SentsAll.kp HS.out HM6.out HO.out)
    have HG0 := Aside0.mk (show ∀ j, Gr (Gr (Gr M w V4) V4 V5) V5 V6 j → Gr M w V6 j from fun j hj => Gr.trans (Nat.le_trans HI4.out.2.size HI5.out.2.size) HK6.out.size (by
      rcases hj with hj | hj
      · exact .inl (Gr.trans HI4.out.2.size HI5.out.2.size hj)
      · exact .inr hj))
    have HO7 := Aside0.mk (OutAll.sub (M' := R6) (OutAll.gr (w' := V6) HO.out HS.out) fun j hj => HG0.out j (H6.out.r j hj).1)
    have HLV := Aside0.mk (leave_calls a R6 sp lp pp dp qp mp blocks frames F2 n xi V6 H6.out.f HS7.out HO7.out HWF.out.1 (by have := HWF.out; omega) (by
      have h1 := HU.out.same.2.2.2.2.1
      rw [h1]; exact HOF.out) HEND.out.has_ HEND.out.rise HEND.out.tid HEND.out.kept HEND.out.rec6 HEND.out.room (by
      have h1 : F2.ks = B.F.ks := HU.out.same.2.2.1
      rw [h1]; exact HALL.out))
    obtain ⟨c0, c1⟩ := H6.out.cells
    have hbl := heap_lt H6.out.box
    go_wp2_with fail
    refine HLV.out.mono ?_
    rintro e V7 ⟨rfl, hp7⟩
    have HP7 := Aside0.mk (H6.out.fw hp7)
    clear hp7 c0 c1 hbl
    go_wp2_with fail
    go_ret
    refine ⟨rfl, _, HABR.out, ?_⟩
    exact BkPost.trans ⟨⟨R6, sl6, H6.out.mono HG0.out⟩, HM6.out⟩ fun _ => ⟨BkM.mono HP7.out.1 fun j hj => by
      rcases hj with hj | hj
      · exact .inl (HG0.out j hj)
      · exact .inr hj, HP7.out.2.wide fun j hj => HG0.out j hj⟩
end Go.Proofs.YtaplpeoikebedaaGreatDoor.BackB
