/- Joined texts: FwdX, BackE, First18. No condition but what each says. -/
import Derived.Test.YtaplpeoikebedaaGreatDoorV29
import Derived.Test.YtaplpeoikebedaaGreatDoorV37
import Derived.Test.YtaplpeoikebedaaGreatDoorV31
import Derived.Test.YtaplpeoikebedaaGreatDoorV38
import Derived.Test.YtaplpeoikebedaaGreatDoorV33
import Derived.Test.YtaplpeoikebedaaGreatDoorV34
import Derived.Test.YtaplpeoikebedaaGreatDoorV36
set_option maxHeartbeats 8000000
set_option maxRecDepth 100000
set_option linter.unusedVariables false
set_option linter.unusedSimpArgs false
namespace Go.Proofs.YtaplpeoikebedaaGreatDoor.FwdX
open Go.RowKit Go.Maps YtaplpeoikebedaaGreatDoorW.PrintWords YtaplpeoikebedaaGreatDoorW.PrintLast YtaplpeoikebedaaGreatDoorW.PrintMore
open See Mem Page PageB PageR PageL Disk DiskN DiskW RecD Rec Dirty Wal WalF SysD SysM PoolG Pager StoreD PageM StoreF StoreG StoreI StoreJ PageO HeldT TransT LockT LockU SpaceT WaitT FwdM FwdP FwdC FwdF FwdT FwdB FwdS FwdU StoreW
attribute [local go_sem] max2_imax min2_imin max_two min_two
theorem del_calls (a : Nat → Addr) (M : Nat → Prop) (sp lp pp dp qp mp : Nat) (blocks frames : Int) (F : FS) (n key hint : Int) (N m : Nat) (ch : Int → List Int) (kp : Int → Int) (own : Int → Int) (w : World) (h : FwM M w sp lp pp dp qp mp blocks frames F) (hok : FOk N m ch kp F) (hk : KOk own F.ks) (he : own key = n) (hs : SentsAll w a) (hO : OutAll M a) (h0 : 0 ≤ n) (h1 : n < F.sess) (h2 : F.sess ≤ 1000)
    (hx : thas F.ts (F.of n) = true) (hk0 : 0 ≤ key) (hk1 : key < 1048576) (hl : F.ks.length ≤ 80000) (hm : m ≤ 30000) (hh0 : -9223372036854775808 ≤ hint) (hh1 : hint ≤ 9223372036854775807) :
    Calls Tryz.prog 86 #[.pointer (some ⟨sp, 0, none⟩), .int .i64 n, .int .i64 key, .int .i64 hint] w (PutPost a M sp lp pp dp qp mp blocks frames (delR F n key hint) w) := by
  have HT := Aside0.mk (takes_calls a M sp lp pp dp qp mp blocks frames F n key hint N m ch kp own w h hok hk he hs hO h0 h1 h2 hx hk0 hk1 hl hm hh0 hh1)
  have HS := Aside0.mk hs
  have HO := Aside0.mk hO
  have HOK := Aside0.mk hok
  have HK := Aside0.mk hk
  have HE := Aside0.mk he
  have HX := Aside0.mk hx
  have HTK := Aside0.mk (takes_ok hok hk he ⟨hk0, hk1⟩ hint)
  obtain ⟨x, hxx⟩ : ∃ x, tget F.ts (F.of n) = x := ⟨_, rfl⟩
  obtain ⟨l0, hl0⟩ : ∃ l0, (cur F.S (placeOf key F.P)).1 = l0 := ⟨_, rfl⟩
  obtain ⟨es, hes⟩ : ∃ es, (cur F.S (placeOf key F.P)).2 = es := ⟨_, rfl⟩
  have HXX := Aside0.mk (And.intro hxx (And.intro hl0 hes))
  unfold TakesPost at HT
  rw [hxx, hl0, hes] at HT
  obtain ⟨xi, xs, xl, xn⟩ := x
  simp only [txV] at HT
  clear h hok hk he hs hO hl hm hx hxx h0 h1 h2 hh0 hh1 hl0 hes
  go_enter Tryz.func86, Tryz.ntmps86
  go_wp2_with fail
  refine HT.out.mono ?_
  rintro e w1 ⟨sl, rfl, hp, hpost⟩
  obtain ⟨A, c, rfl, _⟩ := ow_slice hp.1
  obtain ⟨el, hel⟩ : ∃ el, es.length = el := ⟨_, rfl⟩
  have HEL := Aside0.mk hel
  rw [hel] at hp ⊢
  have HP1 := Aside0.mk hp
  have HP := Aside0.mk hpost
  clear hp hpost hel
  obtain ⟨W, hW⟩ : ∃ W, (w1.alloc (.cells #[.int .i64 xi, .int .i64 xs, .int .i64 xl, .int .i64 xn] 102)).alloc (.cells #[.int .i64 l0, .slice A el c] 74) = W := ⟨_, rfl⟩
  have HBW := Aside0.mk (show Below w1.heap.size w1 W from by rw [← hW]; repeat (first | exact Below.refl _ _ | apply below_alloc))
  obtain ⟨bx, hbx⟩ : ∃ bx, w1.heap.size = bx := ⟨_, rfl⟩
  obtain ⟨bg, hbg⟩ : ∃ bg, w1.heap.size + 1 = bg := ⟨_, rfl⟩
  have HXB := Aside0.mk (show W.heap[bx]? = some (.cells #[.int .i64 xi, .int .i64 xs, .int .i64 xl, .int .i64 xn] 102 (0, 0)) from by
    rw [← hW, ← hbx]
    exact (Below.heap_alloc _ _ _ (by show _ < (w1.heap.push _).size; rw [Array.size_push]; omega)).trans (heap_alloc_new w1 _))
  have HGB := Aside0.mk (show W.heap[bg]? = some (.cells #[.int .i64 l0, .slice A el c] 74 (0, 0)) from by
    rw [← hW, ← hbg]
    exact ChangeT.alloc_at _ _ (show (w1.alloc _).heap.size = w1.heap.size + 1 from by show (w1.heap.push _).size = _; rw [Array.size_push]))
  have HWN := Aside0.mk (And.intro hW (And.intro hbx hbg))
  clear hW hbx hbg
  go_upto_region 2 with fail
  rw [HWN.out.1, HWN.out.2.2, HWN.out.2.1]
  obtain ⟨x0, x1, x2, x3, _, _, _, _⟩ := tx_cells HXB.out
  obtain ⟨_, _, g0, g1⟩ := FwdT.pg_cells HGB.out
  have hbxl := heap_lt HXB.out
  have hbgl := heap_lt HGB.out
  have HFW := Aside0.mk (HP.out.1.below HBW.out)
  have HPW := Aside0.mk (HP1.out.below HBW.out)
  have HRISE := Aside0.mk (show Rising es from by
    have hp2 := placeOf_in key HOK.out.g.pg.pages
    rw [← HXX.out.2.2]
    exact PageV.rise (HOK.out.g.pg.curV hp2.1 hp2.2))
  have HEG := Aside0.mk (eget_calls l0 (.slice A el c) es key W HPW.out HRISE.out)
  go_wp2_with fail
  refine HEG.out.mono ?_
  rintro e w2 ⟨rfl, hb2⟩
  have HB2 := Aside0.mk (below_step HBW.out hb2)
  have HF2 := Aside0.mk (HFW.out.below hb2)
  have HP2 := Aside0.mk (HPW.out.below hb2)
  have HS2 := Aside0.mk (SentsAll.kp (SentsAll.kp HS.out HP.out.2 HO.out) (Kp.of_below (M := fun _ => False) HB2.out) (fun _ _ => ⟨id, id⟩))
  have HO2 := Aside0.mk (OutAll.gr (w' := w1) HO.out HS.out)
  have HX2 := Aside0.mk ((hb2.block _ (heap_lt HXB.out)).trans HXB.out)
  have HG2 := Aside0.mk ((hb2.block _ (heap_lt HGB.out)).trans HGB.out)
  clear hb2 x0 x1 x2 x3 g0 g1 hbxl hbgl
  obtain ⟨had, hhad⟩ : ∃ b, has es key = b := ⟨_, rfl⟩
  obtain ⟨old, hold⟩ : ∃ o, fromOf es key = o := ⟨_, rfl⟩
  have HHAD := Aside0.mk (And.intro hhad hold)
  rw [hhad, hold]
  clear hhad hold
  have HSET := Aside0.mk (show had = true → ∀ (V : World), Below w2.heap.size w2 V → Calls Tryz.prog 72 #[.pointer (some ⟨sp, 0, none⟩), .agg #[.int .i64 xi, .int .i64 xs, .int .i64 xl, .int .i64 xn], .agg #[.int .i64 l0, .slice A el c], .agg #[.int .i64 0, .int .i64 0, .int .i64 0, .int .i64 0, .int .i64 0, .int .i64 key, .bool true, .bool false, .int .i64 old, .int .i64 0]] V (fun e w' =>
      (F.free < 2 ∧ e = .returned (errv a (some 8)) ∧ FwPost (Gr M w w1) sp lp pp dp qp mp blocks frames (takesF F n key 2 hint) V w') ∨ (¬ F.free < 2 ∧ e = .returned .nilIface ∧ FwPost (Gr M w w1) sp lp pp dp qp mp blocks frames (setF (takesF F n key 2 hint) (F.of n) key true old false 0) V w')) from fun hfl V hbl => by
    obtain ⟨t1, t2, t3, t4, t5, t6, t7, t8, t9⟩ := HTK.out
    obtain ⟨p1, p2⟩ := placeOf_in key HOK.out.g.pg.pages
    have hcur := t5 _ p1 p2
    have hP : (takesF F n key 2 hint).P = F.P := rfl
    have htg : tget (takesF F n key 2 hint).ts (F.of n) = ⟨xi, xs, xl, xn⟩ := HXX.out.1
    by_cases hfr : F.free < 2
    · have := set_low a (Gr M w w1) sp lp pp dp qp mp blocks frames (takesF F n key 2 hint) ⟨xi, xs, xl, xn⟩ l0 (.slice A el c) (rec0 key true old false 0) V (HF2.out.below hbl) (HS2.out.below hbl) hfr ⟨A, el, c, rfl⟩
      exact this.mono fun e w' hh => .inl ⟨hfr, hh.1, hh.2⟩
    · obtain ⟨y, y1, y2, y3, y4⟩ := t8
      have hpo := del_ok (F := takesF F n key 2 hint) (id := F.of n) (key := key) t2 HX.out t6 ⟨hk0, hk1⟩ ⟨y, y1, y2, y3, by rw [y4]; rfl⟩ (by show 2 ≤ F.free; omega) (by
        rw [hP, hcur, HXX.out.2.2, HHAD.out.1]
        exact hfl)
      rw [hP, hcur, HXX.out.2.2, HHAD.out.2] at hpo
      obtain ⟨q1, q2, _, _⟩ := hpo
      have hg := t2.g
      obtain ⟨r1, r2, r3⟩ := hg.room
      have hp32 := hg.p32
      have hpg := hg.pg.pages
      have hl0 : l0 < (takesF F n key 2 hint).S.l.last + 1 := by
        have := hg.lsn (placeOf key F.P) p1 p2
        rw [hcur, HXX.out.2.1] at this
        omega
      have hroom : 1 ≤ (takesF F n key 2 hint).S.l.room := by
        have : (takesF F n key 2 hint).free = F.free := rfl
        omega
      have htf := tab_few hg.pg
      have := set_done a (Gr M w w1) sp lp pp dp qp mp blocks frames (takesF F n key 2 hint) (F.of n) l0 (.slice A el c) es key true old false 0 V (HF2.out.below hbl) (HS2.out.below hbl) HO2.out HX.out t2.t.rise (HP2.out.below hbl) HRISE.out hk0 hk1 hpg (by omega) (by show 2 ≤ F.free; omega) ⟨(room_top hg).1, r2, (room_top hg).2⟩ q2 hroom hl0 (fun e => by cases e) (by have := hg.pg.frames; have := HF2.out.sys.frames.2; omega) (tget_mem HX.out).2 q1
      rw [htg] at this
      exact this.mono fun e w' hh => .inr ⟨hfr, hh.1, hh.2⟩)
  have HR9 := Aside0.mk (show had = false → delR F n key hint = (takesF F n key 2 hint, 0, false, none) from fun h1 => by
    unfold delR
    rw [HXX.out.2.2, HHAD.out.1, if_pos h1])
  have HR8 := Aside0.mk (show had = true → F.free < 2 → delR F n key hint = (takesF F n key 2 hint, 0, false, some 8) from fun h1 h2 => by
    unfold delR
    rw [HXX.out.2.2, HHAD.out.1, if_neg (by rw [h1]; decide), if_pos h2])
  have HR0 := Aside0.mk (show had = true → ¬ F.free < 2 → delR F n key hint = (setF (takesF F n key 2 hint) (F.of n) key true old false 0, old, true, none) from fun h1 h2 => by
    unfold delR
    rw [HXX.out.2.2, HHAD.out.1, HHAD.out.2, if_neg (by rw [h1]; decide), if_neg h2])
  obtain ⟨x0, x1, x2, x3, _, _, _, _⟩ := tx_cells HX2.out
  obtain ⟨_, _, g0, g1⟩ := FwdT.pg_cells HG2.out
  have hxl := heap_lt HX2.out
  have hgl := heap_lt HG2.out
  cases had with
  | true =>
    go_wp2_with fail
    refine (HSET.out (by simp) _ (Below.refl _ _)).mono ?_
    rintro e w3 hset
    rcases hset with ⟨hlt, rfl, hp⟩ | ⟨hge, rfl, hp⟩
    · have HPF := Aside0.mk (FwPost.trans HP.out fun _ => hp.back HB2.out)
      have HRF := Aside0.mk (HR8.out (by simp) hlt)
      clear hp hlt x0 x1 x2 x3 g0 g1 hxl hgl
      rw [show errv a (some 8) = .iface 333 (.pointer (some (a 8))) from rfl]
      go_wp2_with fail
      refine bodyPost_ret (v := .tuple #[.int .i64 0, .bool false, .iface 333 (.pointer (some (a 8)))]) (by simp [results, Tryz.results86, go_sem]) rfl ?_
      unfold PutPost
      rw [HRF.out]
      exact ⟨rfl, HPF.out⟩
    · have HPF := Aside0.mk (FwPost.trans HP.out fun _ => hp.back HB2.out)
      have HRF := Aside0.mk (HR0.out (by simp) hge)
      clear hp hge x0 x1 x2 x3 g0 g1 hxl hgl
      go_wp2_with fail
      refine bodyPost_ret (v := .tuple #[.int .i64 old, .bool true, .nilIface]) (by simp [results, Tryz.results86, go_sem]) rfl ?_
      unfold PutPost
      rw [HRF.out]
      exact ⟨rfl, HPF.out⟩
  | false =>
    have HRF := Aside0.mk (HR9.out (by simp))
    have HPF := Aside0.mk (FwPost.step HP.out HB2.out)
    clear x0 x1 x2 x3 g0 g1 hxl hgl
    go_wp2_with fail
    refine bodyPost_ret (v := .tuple #[.int .i64 0, .bool false, .nilIface]) (by simp [results, Tryz.results86, go_sem]) rfl ?_
    unfold PutPost
    rw [HRF.out]
    exact ⟨rfl, HPF.out⟩
end Go.Proofs.YtaplpeoikebedaaGreatDoor.FwdX
namespace Go.Proofs.YtaplpeoikebedaaGreatDoor.BackE
open Go.RowKit Go.Maps YtaplpeoikebedaaGreatDoorW.PrintWords YtaplpeoikebedaaGreatDoorW.PrintLast YtaplpeoikebedaaGreatDoorW.PrintMore
open See Mem Clone Go.Proofs.YtaplpeoikebedaaGreatDoor.Cell Page PageB PageR PageL Disk Dirty Pool2 RecD Wal PoolG SysD SysM StoreD StoreF StoreI StoreJ StoreW TransT LockT LockU SpaceT WaitT FwdM FwdP FwdC FwdT FwdU FwdW FwdX Pager BackM
attribute [local go_sem] max2_imax min2_imin max_two min_two
theorem eql_nil (x : Addr) (w : World) : (binOp .eql 37 .nilIface (.iface 333 (.pointer (some x)))).run Tryz.prog w = .ok (.bool false) w := by kernel_rfl
theorem ends_nil (a : Nat → Addr) (p : Value) (n hint v : Int) (is : Bool) (w : World) (hs : SentsAll w a) :
    Calls Tryz.prog 87 #[p, .int .i64 n, .int .i64 hint, .int .i64 v, .bool is, .nilIface] w fun e w' => e = .returned (.tuple #[.int .i64 v, .bool is, .nilIface]) ∧ Below w.heap.size w w' := by
  have hg11 : w.cell? ⟨12, 0, none⟩ = some (.iface 333 (.pointer (some (a 11)))) := hs.cell 11 (by decide)
  have hg8 : w.cell? ⟨2, 0, none⟩ = some (.iface 333 (.pointer (some (a 8)))) := hs.cell 8 (by decide)
  have he11 := eql_nil (a 11) w
  have he8 := eql_nil (a 8) w
  clear hs
  go_enter Tryz.func87, Tryz.ntmps87
  go_wp2_with fail
  exact bodyPost_ret (v := .tuple #[.int .i64 v, .bool is, .nilIface]) (by simp [results, Tryz.results87, go_sem]) rfl ⟨rfl, Below.refl _ _⟩
theorem bput_calls (a : Nat → Addr) (M : Nat → Prop) (bp bm sp lp pp dp qp mp : Nat) (blocks frames : Int) (B : BSt) (n key v hint : Int) (N m : Nat) (ch : Int → List Int) (kp : Int → Int) (own : Int → Int) (F' : FS) (old : Int) (had : Bool) (w : World) (h : BkM M w bp bm sp lp pp dp qp mp blocks frames B) (hR : putR B.F n key v hint = (F', old, had, none)) (hok : FOk N m ch kp B.F) (hk : KOk own B.F.ks) (he : own key = n) (hs : SentsAll w a) (hO : OutAll M a) (h0 : 0 ≤ n) (h1 : n < B.F.sess) (h2 : B.F.sess ≤ 1000)
    (hx : thas B.F.ts (B.F.of n) = true) (hk0 : 0 ≤ key) (hk1 : key < 1048576) (hl : B.F.ks.length ≤ 80000) (hm : m ≤ 30000) (hh0 : -9223372036854775808 ≤ hint) (hh1 : hint ≤ 9223372036854775807) (hv : is64 v) :
    Calls Tryz.prog 33 #[.pointer (some ⟨bp, 0, none⟩), .int .i64 n, .int .i64 key, .int .i64 v, .int .i64 hint] w fun e w' => e = .returned (.tuple #[.int .i64 old, .bool had, .nilIface]) ∧ BkPost M bp bm sp lp pp dp qp mp blocks frames { B with F := F' } w w' := by
  obtain ⟨R, sl, h⟩ := h
  have HP := Aside0.mk (put_calls a R sp lp pp dp qp mp blocks frames B.F n key v hint N m ch kp own w h.f hok hk he hs (OutAll.sub (M' := R) hO fun k hk => (h.r k hk).1) h0 h1 h2 hx hk0 hk1 hl hm hh0 hh1 hv)
  unfold PutPost at HP
  rw [hR] at HP
  have HH := Aside0.mk h
  have HS := Aside0.mk hs
  have HO := Aside0.mk hO
  obtain ⟨c0, c1⟩ := h.cells
  have hbl := heap_lt h.box
  clear h hR hok hk he hs hO hx hl hm hv h0 h1 h2
  go_enter Tryz.func33, Tryz.ntmps33
  go_wp2_with fail
  refine HP.out.mono ?_
  rintro e w1 ⟨rfl, hp⟩
  have HP1 := Aside0.mk (HH.out.fw hp)
  have HS1 := Aside0.mk (SentsAll.kp HS.out HP1.out.2 HO.out)
  clear hp c0 c1 hbl
  rw [show errv a none = .nilIface from rfl]
  go_wp2_with fail
  refine (ends_nil a _ n hint old had w1 HS1.out).mono ?_
  rintro e w2 ⟨rfl, hb⟩
  have HP2 := Aside0.mk (BkPost.step HP1.out hb)
  clear hb
  go_wp2_with fail
  exact bodyPost_ret (v := .tuple #[.int .i64 old, .bool had, .nilIface]) (by simp [results, Tryz.results33, go_sem]) rfl ⟨rfl, HP2.out⟩
theorem bdel_calls (a : Nat → Addr) (M : Nat → Prop) (bp bm sp lp pp dp qp mp : Nat) (blocks frames : Int) (B : BSt) (n key hint : Int) (N m : Nat) (ch : Int → List Int) (kp : Int → Int) (own : Int → Int) (F' : FS) (old : Int) (had : Bool) (w : World) (h : BkM M w bp bm sp lp pp dp qp mp blocks frames B) (hR : delR B.F n key hint = (F', old, had, none)) (hok : FOk N m ch kp B.F) (hk : KOk own B.F.ks) (he : own key = n) (hs : SentsAll w a) (hO : OutAll M a) (h0 : 0 ≤ n) (h1 : n < B.F.sess) (h2 : B.F.sess ≤ 1000)
    (hx : thas B.F.ts (B.F.of n) = true) (hk0 : 0 ≤ key) (hk1 : key < 1048576) (hl : B.F.ks.length ≤ 80000) (hm : m ≤ 30000) (hh0 : -9223372036854775808 ≤ hint) (hh1 : hint ≤ 9223372036854775807) :
    Calls Tryz.prog 32 #[.pointer (some ⟨bp, 0, none⟩), .int .i64 n, .int .i64 key, .int .i64 hint] w fun e w' => e = .returned (.tuple #[.int .i64 old, .bool had, .nilIface]) ∧ BkPost M bp bm sp lp pp dp qp mp blocks frames { B with F := F' } w w' := by
  obtain ⟨R, sl, h⟩ := h
  have HP := Aside0.mk (del_calls a R sp lp pp dp qp mp blocks frames B.F n key hint N m ch kp own w h.f hok hk he hs (OutAll.sub (M' := R) hO fun k hk => (h.r k hk).1) h0 h1 h2 hx hk0 hk1 hl hm hh0 hh1)
  unfold PutPost at HP
  rw [hR] at HP
  have HH := Aside0.mk h
  have HS := Aside0.mk hs
  have HO := Aside0.mk hO
  obtain ⟨c0, c1⟩ := h.cells
  have hbl := heap_lt h.box
  clear h hR hok hk he hs hO hx hl hm h0 h1 h2
  go_enter Tryz.func32, Tryz.ntmps32
  go_wp2_with fail
  refine HP.out.mono ?_
  rintro e w1 ⟨rfl, hp⟩
  have HP1 := Aside0.mk (HH.out.fw hp)
  have HS1 := Aside0.mk (SentsAll.kp HS.out HP1.out.2 HO.out)
  clear hp c0 c1 hbl
  rw [show errv a none = .nilIface from rfl]
  go_wp2_with fail
  refine (ends_nil a _ n hint old had w1 HS1.out).mono ?_
  rintro e w2 ⟨rfl, hb⟩
  have HP2 := Aside0.mk (BkPost.step HP1.out hb)
  clear hb
  go_wp2_with fail
  exact bodyPost_ret (v := .tuple #[.int .i64 old, .bool had, .nilIface]) (by simp [results, Tryz.results32, go_sem]) rfl ⟨rfl, HP2.out⟩
theorem bget_calls (a : Nat → Addr) (M : Nat → Prop) (bp bm sp lp pp dp qp mp : Nat) (blocks frames : Int) (B : BSt) (n key hint : Int) (N m : Nat) (ch : Int → List Int) (kp : Int → Int) (w : World) (h : BkM M w bp bm sp lp pp dp qp mp blocks frames B) (hok : FOk N m ch kp B.F) (hk : whoL B.F.ks n key 1 = []) (hs : SentsAll w a) (hO : OutAll M a) (h0 : 0 ≤ n) (h1 : n < B.F.sess) (h2 : B.F.sess ≤ 1000)
    (hx : thas B.F.ts (B.F.of n) = true) (hk0 : 0 ≤ key) (hk1 : key < 1048576) (hl : B.F.ks.length ≤ 80000) (hm : m ≤ 30000) (hh0 : -9223372036854775808 ≤ hint) (hh1 : hint ≤ 9223372036854775807) :
    Calls Tryz.prog 36 #[.pointer (some ⟨bp, 0, none⟩), .int .i64 n, .int .i64 key, .int .i64 hint] w fun e w' => e = .returned (.tuple #[.int .i64 (fromOf (cur B.F.S (placeOf key B.F.P)).2 key), .bool (has (cur B.F.S (placeOf key B.F.P)).2 key), .nilIface]) ∧ BkPost M bp bm sp lp pp dp qp mp blocks frames { B with F := takesF B.F n key 1 hint } w w' := by
  obtain ⟨R, sl, h⟩ := h
  have HP := Aside0.mk (get1_calls a R sp lp pp dp qp mp blocks frames B.F n key hint N m ch kp w h.f hok hk hs (OutAll.sub (M' := R) hO fun k hk => (h.r k hk).1) h0 h1 h2 hx hk0 hk1 hl hm hh0 hh1)
  obtain ⟨old, hold⟩ : ∃ o, fromOf (cur B.F.S (placeOf key B.F.P)).2 key = o := ⟨_, rfl⟩
  obtain ⟨had, hhad⟩ : ∃ b, has (cur B.F.S (placeOf key B.F.P)).2 key = b := ⟨_, rfl⟩
  rw [hold, hhad] at HP ⊢
  have HH := Aside0.mk h
  have HS := Aside0.mk hs
  have HO := Aside0.mk hO
  obtain ⟨c0, c1⟩ := h.cells
  have hbl := heap_lt h.box
  clear h hok hk hs hO hx hl hm h0 h1 h2 hold hhad
  go_enter Tryz.func36, Tryz.ntmps36
  go_wp2_with fail
  refine HP.out.mono ?_
  rintro e w1 ⟨rfl, hp⟩
  have HP1 := Aside0.mk (HH.out.fw hp)
  have HS1 := Aside0.mk (SentsAll.kp HS.out HP1.out.2 HO.out)
  clear hp c0 c1 hbl
  go_wp2_with fail
  refine (ends_nil a _ n hint old had w1 HS1.out).mono ?_
  rintro e w2 ⟨rfl, hb⟩
  have HP2 := Aside0.mk (BkPost.step HP1.out hb)
  clear hb
  go_wp2_with fail
  exact bodyPost_ret (v := .tuple #[.int .i64 old, .bool had, .nilIface]) (by simp [results, Tryz.results36, go_sem]) rfl ⟨rfl, HP2.out⟩
end Go.Proofs.YtaplpeoikebedaaGreatDoor.BackE
namespace Go.Proofs.YtaplpeoikebedaaGreatDoor.First18
open Go.RowKit Go.Maps YtaplpeoikebedaaGreatDoorW.PrintWords YtaplpeoikebedaaGreatDoorW.PrintLast YtaplpeoikebedaaGreatDoorW.PrintMore
open See Mem Page Disk DiskN RecD Dirty Pool2 Pool3 Wal Fresh SysD SysM StoreD StoreF StoreI StoreJ RoomD TransT LockT LockU SpaceT WaitT FwdM FwdP FwdC FwdE FwdT FwdN FwdO FwdB FwdG First17 RefN BackA BackM BackW BackV BackU BackB BackN
attribute [local go_sem] max2_imax min2_imin max_two min_two
theorem bcalled_none (a : Nat → Addr) (M R : Nat → Prop) (bp bm sp lp pp dp qp mp : Nat) (blocks frames : Int) (B : BSt) (sl : Int → Value) (n : Int) (w : World) (h : BkIn M w bp bm sp lp pp dp qp mp blocks frames B R sl) (h0 : 0 ≤ n) (h1 : n < B.F.sess) (h2 : B.F.sess ≤ 1000) (hx : thas B.F.ts (B.F.of n) = false) (hs : SentsAll w a) (hr : Rising (kvT B.F.ts)) :
    Calls Tryz.prog 85 #[.pointer (some ⟨bp, 0, none⟩), .int .i64 n] w fun e w' => e = .returned (.tuple #[txV tx0, svV 0 (.slice none 0 0), errv a (some 12)]) ∧ Below w.heap.size w w' := by
  have HC := Aside0.mk (fun (W : World) (hb : Below w.heap.size w W) => called_none R sp lp pp dp qp mp blocks frames B.F n W (h.f.below hb) h0 h1 h2 hx a ((hs.below hb).k _ (by decide)) hr)
  have hbl := heap_lt h.box
  obtain ⟨W, hW⟩ : ∃ W, (w.alloc z4).alloc zsv = W := ⟨_, rfl⟩
  have hz0 : W.heap[w.heap.size]? = some z4 := by rw [← hW]; exact (Below.heap_alloc _ _ _ (by show _ < (w.heap.push _).size; rw [Array.size_push]; omega)).trans (heap_alloc_new w _)
  have hz1 : W.heap[w.heap.size + 1]? = some zsv := by
    rw [← hW]; have := heap_alloc_new (w.alloc z4) zsv; rw [show (w.alloc z4).heap.size = w.heap.size + 1 from by show (w.heap.push _).size = _; rw [Array.size_push]] at this; exact this
  have HBW := Aside0.mk (show Below w.heap.size w W by rw [← hW]; repeat (first | exact Below.refl _ _ | apply below_drew1 | apply below_alloc))
  have HQ0 := Aside0.mk hz0
  have HQ1 := Aside0.mk hz1
  have hbW : W.heap[bp]? = some (.cells #[.pointer (some ⟨sp, 0, none⟩), .map (some bm)] 61 (0, 0)) := (HBW.out.block _ hbl).trans h.box
  have b0 : W.cell? ⟨bp, 0, none⟩ = some (.pointer (some ⟨sp, 0, none⟩)) := by simp [World.cell?, hbW]
  have hbpl : bp < W.heap.size := heap_lt hbW
  have HWE := Aside0.mk hW
  simp only [txV, tx0, errv] at HC
  clear h hx hs hr h0 h1 h2 hz0 hz1 hW hbW hbl
  go_enter Tryz.func85, Tryz.ntmps85
  go_upto_region 1 with fail
  rw [show (w.alloc (.cells #[.int .i64 0, .int .i64 0, .int .i64 0, .int .i64 0] 102)).alloc (.cells #[.int .i64 0, .slice none 0 0] 148) = W from HWE.out]
  go_wp2_with fail
  refine (HC.out _ HBW.out).mono ?_
  rintro e w1 ⟨rfl, hb⟩
  have hbn : Below w1.heap.size w1 (w1.alloc (.cells #[.int .i64 0, .int .i64 0, .int .i64 0, .int .i64 0] 102)) := below_alloc (Below.refl _ _) _
  obtain ⟨W1, hW1⟩ : ∃ W1, w1.alloc (.cells #[.int .i64 0, .int .i64 0, .int .i64 0, .int .i64 0] 102) = W1 := ⟨_, rfl⟩
  rw [hW1] at hbn
  have HB2 := Aside0.mk (below_step (below_step HBW.out hb) hbn)
  have HQ0' := Aside0.mk (cfg_keep (cfg_keep HQ0.out hb) hbn)
  have HQ1' := Aside0.mk (cfg_keep (cfg_keep HQ1.out hb) hbn)
  have HW1 := Aside0.mk hW1
  clear hb hbn hW1 b0 hbpl
  go_upto_region 2 with fail
  rw [HW1.out]
  obtain ⟨_, _, _, _, r0, r1, r2, r3⟩ := tx_cells HQ0'.out
  obtain ⟨f0, f1, _, _⟩ := sv_cells HQ1'.out
  have hlt0 := heap_lt HQ0'.out
  have hlt1 := heap_lt HQ1'.out
  go_wp2_with fail
  rw [show (((((W1.setCell ⟨w.heap.size, 0, none⟩ (.int .i64 0)).setCell ⟨w.heap.size, 1, none⟩ (.int .i64 0)).setCell ⟨w.heap.size, 2, none⟩ (.int .i64 0)).setCell ⟨w.heap.size, 3, none⟩ (.int .i64 0)).setCell ⟨w.heap.size + 1, 0, none⟩ (.int .i64 0)).setCell ⟨w.heap.size + 1, 1, none⟩ (.slice none 0 0) = svPut (txPut W1 w.heap.size tx0) (w.heap.size + 1) 0 (.slice none 0 0) from rfl]
  have p1 := txPut_heap HQ0'.out tx0
  have p2 : (txPut W1 w.heap.size tx0).heap[w.heap.size + 1]? = some zsv := (txPut_other (by omega) tx0).trans HQ1'.out
  have p3 := svPut_heap p2 0 (.slice none 0 0)
  have p4 := (svPut_other (w := txPut W1 w.heap.size tx0) (b := w.heap.size + 1) (k := w.heap.size) (by omega) 0 (.slice none 0 0)).trans p1
  have HBF := Aside0.mk (svPut_below (txPut_below HB2.out (Nat.le_refl _) tx0) (Nat.le_succ _) 0 (.slice none 0 0))
  clear p1 p2 r0 r1 r2 r3 f0 f1 hlt0 hlt1
  generalize svPut (txPut W1 w.heap.size tx0) (w.heap.size + 1) 0 (.slice none 0 0) = wd at p3 p4 HBF ⊢
  obtain ⟨x0, x1, x2, x3, _, _, _, _⟩ := tx_cells p4
  obtain ⟨_, _, g0, g1⟩ := sv_cells p3
  refine bodyPost_ret (v := .tuple #[txV tx0, svV 0 (.slice none 0 0), errv a (some 12)]) ?_ rfl ⟨rfl, HBF.out⟩
  simp [results, Tryz.results85, go_sem, txV, errv, tx0, svV, x0, x1, x2, x3, g0, g1]
theorem back_none (a : Nat → Addr) (M : Nat → Prop) (bp bm sp lp pp dp qp mp : Nat) (blocks frames : Int) (B : BSt) (n t hint : Int) (w : World) (h : BkM M w bp bm sp lp pp dp qp mp blocks frames B) (h0 : 0 ≤ n) (h1 : n < B.F.sess) (h2 : B.F.sess ≤ 1000) (hx : thas B.F.ts (B.F.of n) = false) (hs : SentsAll w a) (hr : Rising (kvT B.F.ts)) :
    Calls Tryz.prog 35 #[.pointer (some ⟨bp, 0, none⟩), .int .i64 n, .int .i64 t, .int .i64 hint] w fun e w' => e = .returned (errv a (some 12)) ∧ Below w.heap.size w w' := by
  obtain ⟨R, sl, h⟩ := h
  have HC := Aside0.mk (bcalled_none a M R bp bm sp lp pp dp qp mp blocks frames B sl n w h h0 h1 h2 hx hs hr)
  simp only [txV, tx0, svV, errv] at HC
  clear h h0 h1 h2 hx hs hr
  go_enter Tryz.func35, Tryz.ntmps35
  go_wp2_with fail
  refine HC.out.mono ?_
  rintro e w1 ⟨rfl, hb⟩
  have HB := Aside0.mk hb
  clear hb
  go_wp2_with fail
  go_ret
  exact ⟨rfl, by repeat (first | exact HB.out | apply below_alloc)⟩
theorem bk_up {n : Nat} {w1 w2 : World} {bp bm sp lp pp dp qp mp : Nat} {blocks frames : Int} {B : BSt} (h : BkPost (fun k => n ≤ k) bp bm sp lp pp dp qp mp blocks frames B w1 w2) (hn : n ≤ w1.heap.size) : BkM (fun k => n ≤ k) w2 bp bm sp lp pp dp qp mp blocks frames B ∧ Below n w1 w2 :=
  ⟨BkM.mono h.1 fun k hk => by
    rcases hk with hk | ⟨h1, _⟩
    · exact hk
    · exact Nat.le_trans hn h1, h.2.below (fun k hk => hk) hn⟩
theorem first18_calls (a : Nat → Addr) (w : World) (hs : SentsAll w a) :
    Calls Tryz.prog 29 #[] w fun e w' => e = .returned (.bool true) ∧ Below w.heap.size w w' := by
  have HS := Aside0.mk hs
  clear hs
  go_enter Tryz.func29, Tryz.ntmps29
  go_wp2_with fail
  refine (made18_calls 2 6 2 2 (by omega) (by omega) (by omega) w).mono ?_
  rintro e w1 ⟨bp, bm, sp, lp, pp, dp, qp, mp, q, rfl, hbk, hb⟩
  have HBK := Aside0.mk hbk
  have HB := Aside0.mk hb
  have HOK := Aside0.mk (new_ok (P := 2) (blocks := 6) (frames := 2) (sess := 2) 0 (by omega) (by omega) (by omega))
  have HO := Aside0.mk (out_all HS.out)
  clear hbk hb
  go_wp2_with fail
  refine (back_none a _ bp bm sp lp pp dp qp mp 6 2 _ 0 0 0 w1 HBK.out (by decide) (by decide) (by decide) (tx_none HOK.out.t) (HS.out.below HB.out) HOK.out.t.rise).mono ?_
  rintro e w2 ⟨rfl, hb⟩
  have HBK2 := Aside0.mk (HBK.out.below hb)
  have HB2 := Aside0.mk (below_step HB.out hb)
  clear hb
  go_wp2_with fail
  refine (is_calls a (errv a (some 12)) 113 (.inr ⟨12, by decide, rfl, by decide⟩) 113 _ (HS.out.below HB2.out)).mono ?_
  rintro e w3 ⟨rfl, hb⟩
  have HBK3 := Aside0.mk (HBK2.out.below hb)
  have HB3 := Aside0.mk (below_step HB2.out hb)
  clear hb
  rw [show ((113 : Int) == 113) = true from by decide]
  obtain ⟨R3, sl3, h3⟩ := HBK3.out
  have H3 := Aside0.mk h3
  obtain ⟨c0, _⟩ := h3.cells
  have hbl := heap_lt h3.box
  clear h3
  go_wp2_with fail
  refine (begin_calls a R3 sp lp pp dp qp mp 6 2 (newF 2 6 2 2) 0 _ 0 _ _ _ H3.out.f HOK.out (HS.out.below HB3.out) (OutAll.sub (M' := R3) HO.out fun k hk => (H3.out.r k hk).1) (by decide) (by decide) (by decide) rfl (by decide)).mono ?_
  rintro e w4 hpost
  rcases hpost with ⟨_, rfl, hpost⟩ | ⟨hlt, _, _⟩
  case inr => exact absurd hlt (by decide)
  obtain ⟨hk4, hb4⟩ := bk_up (H3.out.fw hpost) HB3.out.size
  have HBK4 := Aside0.mk (show BkM (fun k => w.heap.size ≤ k) w4 bp bm sp lp pp dp qp mp 6 2 ⟨beginF (newF 2 6 2 2) 0, fun _ => ⟨0, []⟩, 0⟩ from hk4)
  have HB4 := Aside0.mk (HB3.out.trans hb4)
  have HOK4 := Aside0.mk (begin_ok (n := 0) HOK.out rfl (by decide) (by decide) rfl (by decide) (by decide))
  clear hpost hk4 hb4 c0 hbl
  go_wp2_with fail
  refine (save_calls _ bp bm sp lp pp dp qp mp 6 2 ⟨beginF (newF 2 6 2 2) 0, fun _ => ⟨0, []⟩, 0⟩ 0 w4 HBK4.out (by decide) (by decide) (by decide) (by decide) HOK4.out.t.rise (by decide) (by decide)).mono ?_
  rintro e w5 ⟨rfl, hpost⟩
  obtain ⟨hk5, hb5⟩ := bk_up hpost HB4.out.size
  have HBK5 := Aside0.mk hk5
  have HB5 := Aside0.mk (HB4.out.trans hb5)
  clear hpost hk5 hb5
  rw [show ((svOf ⟨beginF (newF 2 6 2 2) 0, fun _ => ⟨0, []⟩, 0⟩ 0 (tget (beginF (newF 2 6 2 2) 0).ts ((beginF (newF 2 6 2 2) 0).of 0)).id).length : Int) = 0 from by decide]
  go_wp2_with fail
  refine (abort_calls a _ bp bm sp lp pp dp qp mp 6 2 _ 0 1 0 _ 0 _ _ w5 HBK5.out HOK4.out (by decide) (by decide) rfl (fun _ => by decide) (fun x hx => by cases hx) (by decide) (by decide) (HS.out.below HB5.out) HO.out (by decide) (by decide) (by decide) (by decide) (by decide)).mono ?_
  rintro e w6 ⟨rfl, F', habr, hpost⟩
  obtain ⟨hk6, hb6⟩ := bk_up hpost HB5.out.size
  have HB6 := Aside0.mk (HB5.out.trans hb6)
  clear hpost hk6 hb6 habr
  go_wp2_with fail
  go_ret
  exact ⟨rfl, HB6.out⟩
end Go.Proofs.YtaplpeoikebedaaGreatDoor.First18
