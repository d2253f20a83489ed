/- Joined texts: StoreW, FwdX, BackE, First18, TwiceD. No condition but what each says. -/
import Derived.Test.YtaplpeoikebedaaGreatDoorT34
import Derived.Test.YtaplpeoikebedaaGreatDoorT40
import Derived.Test.YtaplpeoikebedaaGreatDoorT31
import Derived.Test.YtaplpeoikebedaaGreatDoorT39
import Derived.Test.YtaplpeoikebedaaGreatDoorT33
import Derived.Test.YtaplpeoikebedaaGreatDoorT35
import Derived.Test.YtaplpeoikebedaaGreatDoorT36
import Derived.Test.YtaplpeoikebedaaGreatDoorT38
set_option linter.unusedVariables false
set_option linter.unusedSimpArgs false
namespace Go.Proofs.YtaplpeoikebedaaGreatDoor.StoreW
open Go.RowKit See Mem Page PageB PageR PageL Disk DiskW RecD Dirty Dirty2 SysD SysM Wal WalF GoodD PoolG PoolS FlushG Fresh DirtD Pager StoreD PageM StoreF StoreG StoreH LockT LockU StoreI StoreJ StoreV BackD BackL
structure ChgR (N m : Nat) (ch : Int → List Int) (kp : Int → Int) (F : FS) (id key : Int) (nv : Option Int) (F' : FS) : Prop where
  ok : FOk N (m + 1) (updc ch id ((F.S.l.last + 1) :: ch id)) kp F'
  vals_ : ∀ k, vals F' k = if k = key then nv else vals F k
  rew : undoV F'.S.l (F.S.l.last + 1) (vals F') = vals F
  old : ∀ n r, recOf F.S.l n = some r → recOf F'.S.l n = some r
  new : ∃ r, recOf F'.S.l (F.S.l.last + 1) = some r
  last : F'.S.l.last = F.S.l.last + 1
  same : F'.P = F.P ∧ F'.sess = F.sess ∧ F'.most = F.most ∧ F'.of = F.of ∧ F'.free = F.free - 2 ∧ F'.S.frames = F.S.frames
  has_ : thas F'.ts id = true
theorem page_vals {N m : Nat} {ch : Int → List Int} {kp : Int → Int} {F : FS} (h : FOk N m ch kp F) (key : Int) : has (cur F.S (placeOf key F.P)).2 key = (vals F key).isSome ∧ fromOf (cur F.S (placeOf key F.P)).2 key = (vals F key).getD 0 := by
  obtain ⟨p1, p2⟩ := placeOf_in key h.g.pg.pages
  have hr := PageV.rise (h.g.pg.curV p1 p2)
  refine ⟨has_val hr key, ?_⟩
  rw [from_val hr]
  rfl
theorem chg_set {N m : Nat} {ch : Int → List Int} {kp : Int → Int} {F F1 : FS} {id key : Int} {has : Bool} {new : Int} (hl : ∀ n, recOf F1.S.l n = recOf F.S.l n) (hlast : F1.S.l.last = F.S.l.last) (hv : ∀ k, vals F1 k = vals F k) (hs : F1.P = F.P ∧ F1.sess = F.sess ∧ F1.most = F.most ∧ F1.of = F.of ∧ F1.free = F.free ∧ F1.S.frames = F.S.frames) (hid : thas F1.ts id = true) (hr : Rising (kvT F1.ts))
    (hok : FOk N (m + 1) (updc ch id ((F1.S.l.last + 1) :: ch id)) kp (setF F1 id key (vals F key).isSome ((vals F key).getD 0) has new)) (hvs : ∀ k, vals (setF F1 id key (vals F key).isSome ((vals F key).getD 0) has new) k = if k = key then (if has then some new else none) else vals F1 k) :
    ChgR N m ch kp F id key (if has then some new else none) (setF F1 id key (vals F key).isSome ((vals F key).getD 0) has new) := by
  obtain ⟨s1, s2, s3, s4, s5, s6⟩ := hs
  have hL : (setF F1 id key (vals F key).isSome ((vals F key).getD 0) has new).S.l = (addRec F1.S (recSet (tget F1.ts id) F1.P key (vals F key).isSome ((vals F key).getD 0) has new)).l := (chg_l _ _).1
  have hR := set_rew (F := F1) (id := id) (key := key) (had := (vals F key).isSome) (old := (vals F key).getD 0) (has := has) (new := new) (by rw [hv]) (by
    rw [hv]
    cases vals F key <;> rfl) (fun k hk => by rw [hvs, if_neg hk])
  rw [hlast] at hok hR
  refine ⟨hok, fun k => ?_, ?_, fun n r hn => ?_, ⟨_, by rw [hL, ← hlast]; exact addRec_new _ _⟩, ?_, ⟨s1, s2, s3, s4, ?_, ?_⟩, ?_⟩
  · rw [hvs]
    split
    · rfl
    · exact hv k
  · rw [hR]; funext k; exact hv k
  · rw [hL]
    exact addRec_rec (by rw [hl]; exact hn)
  · rw [hL, addRec_last, hlast]
  · show F1.free - 2 = _
    rw [s5]
  · rw [← s6]
    exact (chg_l _ _).2
  · show thas (tnote F1.ts id _ _) id = true
    rw [thas_ids (tnote_rise hr), ids_tnote, ← thas_ids hr]
    exact hid
theorem takes_same {N m : Nat} {ch : Int → List Int} {kp : Int → Int} {F : FS} (h : FOk N m ch kp F) (n key md hint : Int) : (∀ k, recOf (takesF F n key md hint).S.l k = recOf F.S.l k) ∧ (takesF F n key md hint).S.frames = F.S.frames := by
  obtain ⟨p1, p2⟩ := placeOf_in key h.g.pg.pages
  obtain ⟨S', e1, e2, e3, e4⟩ := get_ok h hint p1 p2
  have hF : (takesF F n key md hint).S = S' := by unfold takesF; rw [e1]
  obtain ⟨l1, l2, l3, l4, l5⟩ := e3.ll
  rw [hF]
  exact ⟨fun k => recOf_done l2 l1 k, e3.frames⟩
theorem chg_put {N m : Nat} {ch : Int → List Int} {kp : Int → Int} {F : FS} {own : Int → Int} {n key v hint : Int} (h : FOk N m ch kp F) (hk : KOk own F.ks) (he : own key = n) (hid : thas F.ts (F.of n) = true) (hkey : 0 ≤ key ∧ key < 1048576) (hv : is64 v) (hfr : 2 ≤ F.free) (hnf : (vals F key).isSome = true ∨ fullB (takesF F n key 2 hint) key = false) :
    ∃ F', putR F n key v hint = (F', (vals F key).getD 0, (vals F key).isSome, none) ∧ ChgR N m ch kp F (F.of n) key (some v) F' ∧ KOk own F'.ks ∧ F'.ks = takeL F.ks n key 2 := by
  obtain ⟨t1, t2, t3, t4, t5, t6, t7, t8, t9⟩ := takes_ok h hk he hkey hint
  obtain ⟨p1, p2⟩ := placeOf_in key h.g.pg.pages
  have hcur := t5 _ p1 p2
  obtain ⟨v1, v2⟩ := page_vals h key
  obtain ⟨q1, q2⟩ := takes_same h n key 2 hint
  obtain ⟨x, x1, x2, x3, x4⟩ := t8
  have hP : (takesF F n key 2 hint).P = F.P := rfl
  have hp := put_ok (F := takesF F n key 2 hint) (id := F.of n) (key := key) (v := v) t2 hid t6 hkey hv ⟨x, x1, x2, x3, by rw [x4]; rfl⟩ (by show 2 ≤ F.free; omega) (by
    rw [hP, hcur, v1]
    exact hnf)
  rw [hP, hcur, v1, v2] at hp
  obtain ⟨_, _, _, h4, h5⟩ := hp
  refine ⟨setF (takesF F n key 2 hint) (F.of n) key (vals F key).isSome ((vals F key).getD 0) true v, ?_, ?_, t3, rfl⟩
  · unfold putR
    rw [v1, v2, if_neg, if_neg (by omega)]
    rintro ⟨c1, c2⟩
    rcases hnf with h | h
    · rw [h] at c1; cases c1
    · rw [h] at c2; cases c2
  · have := chg_set (F := F) (F1 := takesF F n key 2 hint) (id := F.of n) (key := key) (has := true) (new := v) q1 t7 t4 ⟨rfl, rfl, rfl, rfl, rfl, q2⟩ hid t2.t.rise h4 (fun k => by rw [h5 k]; simp)
    exact this
end Go.Proofs.YtaplpeoikebedaaGreatDoor.StoreW
namespace Go.Proofs.YtaplpeoikebedaaGreatDoor.FwdX
open Go.RowKit Go.Maps Go.Proofs.YtaplpeoikebedaaGreatDoorW.PrintWords Go.Proofs.YtaplpeoikebedaaGreatDoorW.PrintLast Go.Proofs.YtaplpeoikebedaaGreatDoorW.PrintMore
open See Mem Page PageB PageR PageL Disk DiskN DiskW RecD Rec Dirty Wal WalF SysD SysM PoolG Pager StoreD PageM StoreF StoreG StoreI StoreJ PageO HeldT TransT LockT LockU SpaceT WaitT FwdM FwdP FwdC FwdF FwdT FwdB FwdS FwdU StoreW
attribute [local go_sem] max2_imax min2_imin max_two min_two
end Go.Proofs.YtaplpeoikebedaaGreatDoor.FwdX
namespace Go.Proofs.YtaplpeoikebedaaGreatDoor.BackE
open Go.RowKit Go.Maps Go.Proofs.YtaplpeoikebedaaGreatDoorW.PrintWords Go.Proofs.YtaplpeoikebedaaGreatDoorW.PrintLast Go.Proofs.YtaplpeoikebedaaGreatDoorW.PrintMore
open See Mem Clone Go.Proofs.YtaplpeoikebedaaGreatDoor.Cell Page PageB PageR PageL Disk Dirty Pool2 RecD Wal PoolG SysD SysM StoreD StoreF StoreI StoreJ StoreW TransT LockT LockU SpaceT WaitT FwdM FwdP FwdC FwdT FwdU FwdW FwdX Pager BackM
attribute [local go_sem] max2_imax min2_imin max_two min_two
theorem eql_nil (x : Addr) (w : World) : (binOp .eql 37 .nilIface (.iface 333 (.pointer (some x)))).run Tryz.prog w = .ok (.bool false) w := by kernel_rfl
set_option maxHeartbeats 1000000 in
set_option maxRecDepth 100000 in
theorem ends_nil (a : Nat → Addr) (p : Value) (n hint v : Int) (is : Bool) (w : World) (hs : SentsAll w a) :
    Calls Tryz.prog 87 #[p, .int .i64 n, .int .i64 hint, .int .i64 v, .bool is, .nilIface] w fun e w' => e = .returned (.tuple #[.int .i64 v, .bool is, .nilIface]) ∧ Below w.heap.size w w' := by
  have hg11 : w.cell? ⟨12, 0, none⟩ = some (.iface 333 (.pointer (some (a 11)))) := hs.cell 11 (by decide)
  have hg8 : w.cell? ⟨2, 0, none⟩ = some (.iface 333 (.pointer (some (a 8)))) := hs.cell 8 (by decide)
  have he11 := eql_nil (a 11) w
  have he8 := eql_nil (a 8) w
  clear hs
  go_enter Tryz.func87, Tryz.ntmps87
  go_wp2_with fail
  exact bodyPost_ret (v := .tuple #[.int .i64 v, .bool is, .nilIface]) (by simp [results, Tryz.results87, go_sem]) rfl ⟨rfl, Below.refl _ _⟩
set_option maxHeartbeats 2000000 in
set_option maxRecDepth 100000 in
theorem bput_calls (a : Nat → Addr) (M : Nat → Prop) (bp bm sp lp pp dp qp mp : Nat) (blocks frames : Int) (B : BSt) (n key v hint : Int) (N m : Nat) (ch : Int → List Int) (kp : Int → Int) (own : Int → Int) (F' : FS) (old : Int) (had : Bool) (w : World) (h : BkM M w bp bm sp lp pp dp qp mp blocks frames B) (hR : putR B.F n key v hint = (F', old, had, none)) (hok : FOk N m ch kp B.F) (hk : KOk own B.F.ks) (he : own key = n) (hs : SentsAll w a) (hO : OutAll M a) (h0 : 0 ≤ n) (h1 : n < B.F.sess) (h2 : B.F.sess ≤ 1000)
    (hx : thas B.F.ts (B.F.of n) = true) (hk0 : 0 ≤ key) (hk1 : key < 1048576) (hl : B.F.ks.length ≤ 80000) (hm : m ≤ 30000) (hh0 : -9223372036854775808 ≤ hint) (hh1 : hint ≤ 9223372036854775807) (hv : is64 v) :
    Calls Tryz.prog 33 #[.pointer (some ⟨bp, 0, none⟩), .int .i64 n, .int .i64 key, .int .i64 v, .int .i64 hint] w fun e w' => e = .returned (.tuple #[.int .i64 old, .bool had, .nilIface]) ∧ BkPost M bp bm sp lp pp dp qp mp blocks frames { B with F := F' } w w' := by
  obtain ⟨R, sl, h⟩ := h
  have HP := Aside0.mk (put_calls a R sp lp pp dp qp mp blocks frames B.F n key v hint N m ch kp own w h.f hok hk he hs (OutAll.sub (M' := R) hO fun k hk => (h.r k hk).1) h0 h1 h2 hx hk0 hk1 hl hm hh0 hh1 hv)
  unfold PutPost at HP
  rw [hR] at HP
  have HH := Aside0.mk h
  have HS := Aside0.mk hs
  have HO := Aside0.mk hO
  obtain ⟨c0, c1⟩ := h.cells
  have hbl := heap_lt h.box
  clear h hR hok hk he hs hO hx hl hm hv h0 h1 h2
  go_enter Tryz.func33, Tryz.ntmps33
  go_wp2_with fail
  refine HP.out.mono ?_
  rintro e w1 ⟨rfl, hp⟩
  have HP1 := Aside0.mk (HH.out.fw hp)
  have HS1 := Aside0.mk (SentsAll.kp HS.out HP1.out.2 HO.out)
  clear hp c0 c1 hbl
  rw [show errv a none = .nilIface from rfl]
  go_wp2_with fail
  refine (ends_nil a _ n hint old had w1 HS1.out).mono ?_
  rintro e w2 ⟨rfl, hb⟩
  have HP2 := Aside0.mk (BkPost.step HP1.out hb)
  clear hb
  go_wp2_with fail
  exact bodyPost_ret (v := .tuple #[.int .i64 old, .bool had, .nilIface]) (by simp [results, Tryz.results33, go_sem]) rfl ⟨rfl, HP2.out⟩
set_option maxHeartbeats 2000000 in
set_option maxRecDepth 100000 in
theorem bget_calls (a : Nat → Addr) (M : Nat → Prop) (bp bm sp lp pp dp qp mp : Nat) (blocks frames : Int) (B : BSt) (n key hint : Int) (N m : Nat) (ch : Int → List Int) (kp : Int → Int) (w : World) (h : BkM M w bp bm sp lp pp dp qp mp blocks frames B) (hok : FOk N m ch kp B.F) (hk : whoL B.F.ks n key 1 = []) (hs : SentsAll w a) (hO : OutAll M a) (h0 : 0 ≤ n) (h1 : n < B.F.sess) (h2 : B.F.sess ≤ 1000)
    (hx : thas B.F.ts (B.F.of n) = true) (hk0 : 0 ≤ key) (hk1 : key < 1048576) (hl : B.F.ks.length ≤ 80000) (hm : m ≤ 30000) (hh0 : -9223372036854775808 ≤ hint) (hh1 : hint ≤ 9223372036854775807) :
    Calls Tryz.prog 36 #[.pointer (some ⟨bp, 0, none⟩), .int .i64 n, .int .i64 key, .int .i64 hint] w fun e w' => e = .returned (.tuple #[.int .i64 (fromOf (cur B.F.S (placeOf key B.F.P)).2 key), .bool (has (cur B.F.S (placeOf key B.F.P)).2 key), .nilIface]) ∧ BkPost M bp bm sp lp pp dp qp mp blocks frames { B with F := takesF B.F n key 1 hint } w w' := by
  obtain ⟨R, sl, h⟩ := h
  have HP := Aside0.mk (get1_calls a R sp lp pp dp qp mp blocks frames B.F n key hint N m ch kp w h.f hok hk hs (OutAll.sub (M' := R) hO fun k hk => (h.r k hk).1) h0 h1 h2 hx hk0 hk1 hl hm hh0 hh1)
  obtain ⟨old, hold⟩ : ∃ o, fromOf (cur B.F.S (placeOf key B.F.P)).2 key = o := ⟨_, rfl⟩
  obtain ⟨had, hhad⟩ : ∃ b, has (cur B.F.S (placeOf key B.F.P)).2 key = b := ⟨_, rfl⟩
  rw [hold, hhad] at HP ⊢
  have HH := Aside0.mk h
  have HS := Aside0.mk hs
  have HO := Aside0.mk hO
  obtain ⟨c0, c1⟩ := h.cells
  have hbl := heap_lt h.box
  clear h hok hk hs hO hx hl hm h0 h1 h2 hold hhad
  go_enter Tryz.func36, Tryz.ntmps36
  go_wp2_with fail
  refine HP.out.mono ?_
  rintro e w1 ⟨rfl, hp⟩
  have HP1 := Aside0.mk (HH.out.fw hp)
  have HS1 := Aside0.mk (SentsAll.kp HS.out HP1.out.2 HO.out)
  clear hp c0 c1 hbl
  go_wp2_with fail
  refine (ends_nil a _ n hint old had w1 HS1.out).mono ?_
  rintro e w2 ⟨rfl, hb⟩
  have HP2 := Aside0.mk (BkPost.step HP1.out hb)
  clear hb
  go_wp2_with fail
  exact bodyPost_ret (v := .tuple #[.int .i64 old, .bool had, .nilIface]) (by simp [results, Tryz.results36, go_sem]) rfl ⟨rfl, HP2.out⟩
end Go.Proofs.YtaplpeoikebedaaGreatDoor.BackE
namespace Go.Proofs.YtaplpeoikebedaaGreatDoor.First18
open Go.RowKit Go.Maps Go.Proofs.YtaplpeoikebedaaGreatDoorW.PrintWords Go.Proofs.YtaplpeoikebedaaGreatDoorW.PrintLast Go.Proofs.YtaplpeoikebedaaGreatDoorW.PrintMore
open See Mem Page Disk DiskN RecD Dirty Pool2 Pool3 Wal Fresh SysD SysM StoreD StoreF StoreI StoreJ RoomD TransT LockT LockU SpaceT WaitT FwdM FwdP FwdC FwdE FwdT FwdN FwdO FwdB FwdG First17 RefN BackA BackM BackW BackV BackU BackB BackN
attribute [local go_sem] max2_imax min2_imin max_two min_two
set_option maxHeartbeats 4000000 in
set_option maxRecDepth 100000 in
theorem bcalled_none (a : Nat → Addr) (M R : Nat → Prop) (bp bm sp lp pp dp qp mp : Nat) (blocks frames : Int) (B : BSt) (sl : Int → Value) (n : Int) (w : World) (h : BkIn M w bp bm sp lp pp dp qp mp blocks frames B R sl) (h0 : 0 ≤ n) (h1 : n < B.F.sess) (h2 : B.F.sess ≤ 1000) (hx : thas B.F.ts (B.F.of n) = false) (hs : SentsAll w a) (hr : Rising (kvT B.F.ts)) :
    Calls Tryz.prog 85 #[.pointer (some ⟨bp, 0, none⟩), .int .i64 n] w fun e w' => e = .returned (.tuple #[txV tx0, svV 0 (.slice none 0 0), errv a (some 12)]) ∧ Below w.heap.size w w' := by
  have HC := Aside0.mk (fun (W : World) (hb : Below w.heap.size w W) => called_none R sp lp pp dp qp mp blocks frames B.F n W (h.f.below hb) h0 h1 h2 hx a ((hs.below hb).k _ (by decide)) hr)
  have hbl := heap_lt h.box
  obtain ⟨W, hW⟩ : ∃ W, (w.alloc z4).alloc zsv = W := ⟨_, rfl⟩
  have hz0 : W.heap[w.heap.size]? = some z4 := by rw [← hW]; exact (Below.heap_alloc _ _ _ (by show _ < (w.heap.push _).size; rw [Array.size_push]; omega)).trans (heap_alloc_new w _)
  have hz1 : W.heap[w.heap.size + 1]? = some zsv := by
    rw [← hW]; have := heap_alloc_new (w.alloc z4) zsv; rw [show (w.alloc z4).heap.size = w.heap.size + 1 from by show (w.heap.push _).size = _; rw [Array.size_push]] at this; exact this
  have HBW := Aside0.mk (show Below w.heap.size w W by rw [← hW]; repeat (first | exact Below.refl _ _ | apply below_drew1 | apply below_alloc))
  have HQ0 := Aside0.mk hz0
  have HQ1 := Aside0.mk hz1
  have hbW : W.heap[bp]? = some (.cells #[.pointer (some ⟨sp, 0, none⟩), .map (some bm)] 61 (0, 0)) := (HBW.out.block _ hbl).trans h.box
  have b0 : W.cell? ⟨bp, 0, none⟩ = some (.pointer (some ⟨sp, 0, none⟩)) := by simp [World.cell?, hbW]
  have hbpl : bp < W.heap.size := heap_lt hbW
  have HWE := Aside0.mk hW
  simp only [txV, tx0, errv] at HC
  clear h hx hs hr h0 h1 h2 hz0 hz1 hW hbW hbl
  go_enter Tryz.func85, Tryz.ntmps85
  go_upto_region 1 with fail
  rw [show (w.alloc (.cells #[.int .i64 0, .int .i64 0, .int .i64 0, .int .i64 0] 102)).alloc (.cells #[.int .i64 0, .slice none 0 0] 148) = W from HWE.out]
  go_wp2_with fail
  refine (HC.out _ HBW.out).mono ?_
  rintro e w1 ⟨rfl, hb⟩
  have hbn : Below w1.heap.size w1 (w1.alloc (.cells #[.int .i64 0, .int .i64 0, .int .i64 0, .int .i64 0] 102)) := below_alloc (Below.refl _ _) _
  obtain ⟨W1, hW1⟩ : ∃ W1, w1.alloc (.cells #[.int .i64 0, .int .i64 0, .int .i64 0, .int .i64 0] 102) = W1 := ⟨_, rfl⟩
  rw [hW1] at hbn
  have HB2 := Aside0.mk (below_step (below_step HBW.out hb) hbn)
  have HQ0' := Aside0.mk (cfg_keep (cfg_keep HQ0.out hb) hbn)
  have HQ1' := Aside0.mk (cfg_keep (cfg_keep HQ1.out hb) hbn)
  have HW1 := Aside0.mk hW1
  clear hb hbn hW1 b0 hbpl
  go_upto_region 2 with fail
  rw [HW1.out]
  obtain ⟨_, _, _, _, r0, r1, r2, r3⟩ := tx_cells HQ0'.out
  obtain ⟨f0, f1, _, _⟩ := sv_cells HQ1'.out
  have hlt0 := heap_lt HQ0'.out
  have hlt1 := heap_lt HQ1'.out
  go_wp2_with fail
  rw [show (((((W1.setCell ⟨w.heap.size, 0, none⟩ (.int .i64 0)).setCell ⟨w.heap.size, 1, none⟩ (.int .i64 0)).setCell ⟨w.heap.size, 2, none⟩ (.int .i64 0)).setCell ⟨w.heap.size, 3, none⟩ (.int .i64 0)).setCell ⟨w.heap.size + 1, 0, none⟩ (.int .i64 0)).setCell ⟨w.heap.size + 1, 1, none⟩ (.slice none 0 0) = svPut (txPut W1 w.heap.size tx0) (w.heap.size + 1) 0 (.slice none 0 0) from rfl]
  have p1 := txPut_heap HQ0'.out tx0
  have p2 : (txPut W1 w.heap.size tx0).heap[w.heap.size + 1]? = some zsv := (txPut_other (by omega) tx0).trans HQ1'.out
  have p3 := svPut_heap p2 0 (.slice none 0 0)
  have p4 := (svPut_other (w := txPut W1 w.heap.size tx0) (b := w.heap.size + 1) (k := w.heap.size) (by omega) 0 (.slice none 0 0)).trans p1
  have HBF := Aside0.mk (svPut_below (txPut_below HB2.out (Nat.le_refl _) tx0) (Nat.le_succ _) 0 (.slice none 0 0))
  clear p1 p2 r0 r1 r2 r3 f0 f1 hlt0 hlt1
  generalize svPut (txPut W1 w.heap.size tx0) (w.heap.size + 1) 0 (.slice none 0 0) = wd at p3 p4 HBF ⊢
  obtain ⟨x0, x1, x2, x3, _, _, _, _⟩ := tx_cells p4
  obtain ⟨_, _, g0, g1⟩ := sv_cells p3
  refine bodyPost_ret (v := .tuple #[txV tx0, svV 0 (.slice none 0 0), errv a (some 12)]) ?_ rfl ⟨rfl, HBF.out⟩
  simp [results, Tryz.results85, go_sem, txV, errv, tx0, svV, x0, x1, x2, x3, g0, g1]
set_option maxHeartbeats 2000000 in
set_option maxRecDepth 100000 in
theorem back_none (a : Nat → Addr) (M : Nat → Prop) (bp bm sp lp pp dp qp mp : Nat) (blocks frames : Int) (B : BSt) (n t hint : Int) (w : World) (h : BkM M w bp bm sp lp pp dp qp mp blocks frames B) (h0 : 0 ≤ n) (h1 : n < B.F.sess) (h2 : B.F.sess ≤ 1000) (hx : thas B.F.ts (B.F.of n) = false) (hs : SentsAll w a) (hr : Rising (kvT B.F.ts)) :
    Calls Tryz.prog 35 #[.pointer (some ⟨bp, 0, none⟩), .int .i64 n, .int .i64 t, .int .i64 hint] w fun e w' => e = .returned (errv a (some 12)) ∧ Below w.heap.size w w' := by
  obtain ⟨R, sl, h⟩ := h
  have HC := Aside0.mk (bcalled_none a M R bp bm sp lp pp dp qp mp blocks frames B sl n w h h0 h1 h2 hx hs hr)
  simp only [txV, tx0, svV, errv] at HC
  clear h h0 h1 h2 hx hs hr
  go_enter Tryz.func35, Tryz.ntmps35
  go_wp2_with fail
  refine HC.out.mono ?_
  rintro e w1 ⟨rfl, hb⟩
  have HB := Aside0.mk hb
  clear hb
  go_wp2_with fail
  go_ret
  exact ⟨rfl, by repeat (first | exact HB.out | apply below_alloc)⟩
set_option maxHeartbeats 2000000 in
set_option maxRecDepth 100000 in
theorem back_bad (a : Nat → Addr) (M : Nat → Prop) (bp bm sp lp pp dp qp mp : Nat) (blocks frames : Int) (B : BSt) (n : Int) (i : Nat) (hint : Int) (w : World) (h : BkM M w bp bm sp lp pp dp qp mp blocks frames B) (hx : thas B.F.ts (B.F.of n) = true) (hr : Rising (kvT B.F.ts)) (hi : (svOf B n (tget B.F.ts (B.F.of n)).id).length ≤ i) (h0 : 0 ≤ n) (h1 : n < B.F.sess) (h2 : B.F.sess ≤ 1000) (hs : SentsAll w a) :
    Calls Tryz.prog 35 #[.pointer (some ⟨bp, 0, none⟩), .int .i64 n, .int .i64 i, .int .i64 hint] w fun e w' => e = .returned (errv a (some 14)) ∧ Below w.heap.size w w' := by
  obtain ⟨R, sl, h⟩ := h
  have HC := Aside0.mk (bcalled_calls M R bp bm sp lp pp dp qp mp blocks frames B sl n w h h0 h1 h2 hx hr)
  have hrow := slOf_row h n (tget B.F.ts (B.F.of n)).id
  obtain ⟨x, hxx⟩ : ∃ x, tget B.F.ts (B.F.of n) = x := ⟨_, rfl⟩
  rw [hxx] at HC hrow hi
  obtain ⟨xi, xs, xl, xn⟩ := x
  simp only at hrow hi
  obtain ⟨rs, hrs⟩ : ∃ v, slOf B sl n xi = v := ⟨_, rfl⟩
  rw [hrs] at hrow HC
  obtain ⟨A, c, rfl, _⟩ := ow_slice hrow
  obtain ⟨k, hk⟩ : ∃ k, (svOf B n xi).length = k := ⟨_, rfl⟩
  rw [hk] at HC hi
  have HS := Aside0.mk hs
  have hd0 : decide ((i : Int) < 0) = false := decide_eq_false (by omega)
  have hd1 : decide ((k : Int) ≤ (i : Int)) = true := decide_eq_true (by omega)
  have hd2 : decide (k ≤ i) = true := decide_eq_true hi
  simp only [txV, svV] at HC
  clear h hx hr h0 h1 h2 hs hxx hrs hk hrow
  go_enter Tryz.func35, Tryz.ntmps35
  go_wp2_with fail
  refine HC.out.mono ?_
  rintro e w1 ⟨rfl, hb⟩
  obtain ⟨W, hW⟩ : ∃ W, (w1.alloc (.cells #[.int .i64 xi, .int .i64 xs, .int .i64 xl, .int .i64 xn] 102)).alloc (.cells #[.int .i64 xi, .slice A k c] 148) = W := ⟨_, rfl⟩
  have HBW := Aside0.mk (show Below w.heap.size w W from below_step hb (show Below w1.heap.size w1 W by rw [← hW]; repeat (first | exact Below.refl _ _ | apply below_alloc)))
  obtain ⟨bs, hbs⟩ : ∃ b, w1.heap.size + 1 = b := ⟨_, rfl⟩
  have HSB := Aside0.mk (show W.heap[bs]? = some (.cells #[.int .i64 xi, .slice A k c] 148 (0, 0)) from by
    rw [← hW, ← hbs]
    exact ChangeT.alloc_at _ _ (show (w1.alloc _).heap.size = w1.heap.size + 1 from by show (w1.heap.push _).size = _; rw [Array.size_push]))
  have HWN := Aside0.mk (And.intro hW hbs)
  have hg14 : W.cell? ⟨5, 0, none⟩ = some (.iface 333 (.pointer (some (a 14)))) := (HS.out.below HBW.out).cell 14 (by decide)
  clear hW hb hbs
  go_upto_region 2 with fail
  rw [HWN.out.1, HWN.out.2]
  obtain ⟨e0, e1, s0, s1⟩ := sv_cells HSB.out
  have hsl := heap_lt HSB.out
  go_wp2_with fail
  go_ret
  exact ⟨rfl, HBW.out⟩
theorem bk_up {n : Nat} {w1 w2 : World} {bp bm sp lp pp dp qp mp : Nat} {blocks frames : Int} {B : BSt} (h : BkPost (fun k => n ≤ k) bp bm sp lp pp dp qp mp blocks frames B w1 w2) (hn : n ≤ w1.heap.size) : BkM (fun k => n ≤ k) w2 bp bm sp lp pp dp qp mp blocks frames B ∧ Below n w1 w2 :=
  ⟨BkM.mono h.1 fun k hk => by
    rcases hk with hk | ⟨h1, _⟩
    · exact hk
    · exact Nat.le_trans hn h1, h.2.below (fun k hk => hk) hn⟩
set_option maxHeartbeats 8000000 in
set_option maxRecDepth 100000 in
theorem first18_calls (a : Nat → Addr) (w : World) (hs : SentsAll w a) :
    Calls Tryz.prog 29 #[] w fun e w' => e = .returned (.bool true) ∧ Below w.heap.size w w' := by
  have HS := Aside0.mk hs
  clear hs
  go_enter Tryz.func29, Tryz.ntmps29
  go_wp2_with fail
  refine (made18_calls 2 6 2 2 (by omega) (by omega) (by omega) w).mono ?_
  rintro e w1 ⟨bp, bm, sp, lp, pp, dp, qp, mp, q, rfl, hbk, hb⟩
  have HBK := Aside0.mk hbk
  have HB := Aside0.mk hb
  have HOK := Aside0.mk (new_ok (P := 2) (blocks := 6) (frames := 2) (sess := 2) 0 (by omega) (by omega) (by omega))
  have HO := Aside0.mk (out_all HS.out)
  clear hbk hb
  go_wp2_with fail
  refine (back_none a _ bp bm sp lp pp dp qp mp 6 2 _ 0 0 0 w1 HBK.out (by decide) (by decide) (by decide) (tx_none HOK.out.t) (HS.out.below HB.out) HOK.out.t.rise).mono ?_
  rintro e w2 ⟨rfl, hb⟩
  have HBK2 := Aside0.mk (HBK.out.below hb)
  have HB2 := Aside0.mk (below_step HB.out hb)
  clear hb
  go_wp2_with fail
  refine (is_calls a (errv a (some 12)) 113 (.inr ⟨12, by decide, rfl, by decide⟩) 113 _ (HS.out.below HB2.out)).mono ?_
  rintro e w3 ⟨rfl, hb⟩
  have HBK3 := Aside0.mk (HBK2.out.below hb)
  have HB3 := Aside0.mk (below_step HB2.out hb)
  clear hb
  rw [show ((113 : Int) == 113) = true from by decide]
  obtain ⟨R3, sl3, h3⟩ := HBK3.out
  have H3 := Aside0.mk h3
  obtain ⟨c0, _⟩ := h3.cells
  have hbl := heap_lt h3.box
  clear h3
  go_wp2_with fail
  refine (begin_calls a R3 sp lp pp dp qp mp 6 2 (newF 2 6 2 2) 0 _ 0 _ _ _ H3.out.f HOK.out (HS.out.below HB3.out) (OutAll.sub (M' := R3) HO.out fun k hk => (H3.out.r k hk).1) (by decide) (by decide) (by decide) rfl (by decide)).mono ?_
  rintro e w4 hpost
  rcases hpost with ⟨_, rfl, hpost⟩ | ⟨hlt, _, _⟩
  case inr => exact absurd hlt (by decide)
  obtain ⟨hk4, hb4⟩ := bk_up (H3.out.fw hpost) HB3.out.size
  have HBK4 := Aside0.mk (show BkM (fun k => w.heap.size ≤ k) w4 bp bm sp lp pp dp qp mp 6 2 ⟨beginF (newF 2 6 2 2) 0, fun _ => ⟨0, []⟩, 0⟩ from hk4)
  have HB4 := Aside0.mk (HB3.out.trans hb4)
  have HOK4 := Aside0.mk (begin_ok (n := 0) HOK.out rfl (by decide) (by decide) rfl (by decide) (by decide))
  clear hpost hk4 hb4 c0 hbl
  go_wp2_with fail
  refine (save_calls _ bp bm sp lp pp dp qp mp 6 2 ⟨beginF (newF 2 6 2 2) 0, fun _ => ⟨0, []⟩, 0⟩ 0 w4 HBK4.out (by decide) (by decide) (by decide) (by decide) HOK4.out.t.rise (by decide) (by decide)).mono ?_
  rintro e w5 ⟨rfl, hpost⟩
  obtain ⟨hk5, hb5⟩ := bk_up hpost HB4.out.size
  have HBK5 := Aside0.mk hk5
  have HB5 := Aside0.mk (HB4.out.trans hb5)
  clear hpost hk5 hb5
  rw [show ((svOf ⟨beginF (newF 2 6 2 2) 0, fun _ => ⟨0, []⟩, 0⟩ 0 (tget (beginF (newF 2 6 2 2) 0).ts ((beginF (newF 2 6 2 2) 0).of 0)).id).length : Int) = 0 from by decide]
  go_wp2_with fail
  refine (abort_calls a _ bp bm sp lp pp dp qp mp 6 2 _ 0 1 0 _ 0 _ _ w5 HBK5.out HOK4.out (by decide) (by decide) rfl (fun _ => by decide) (fun x hx => by cases hx) (by decide) (by decide) (HS.out.below HB5.out) HO.out (by decide) (by decide) (by decide) (by decide) (by decide)).mono ?_
  rintro e w6 ⟨rfl, F', habr, hpost⟩
  obtain ⟨hk6, hb6⟩ := bk_up hpost HB5.out.size
  have HB6 := Aside0.mk (HB5.out.trans hb6)
  clear hpost hk6 hb6 habr
  go_wp2_with fail
  go_ret
  exact ⟨rfl, HB6.out⟩
end Go.Proofs.YtaplpeoikebedaaGreatDoor.First18
namespace Go.Proofs.YtaplpeoikebedaaGreatDoor.TwiceD
open Go.RowKit See Mem Page PageB PageR PageL Disk DiskW RecD Dirty Wal WalF PoolG PoolS SysD SysM Fresh FlushG Pager StoreD PageM StoreF StoreG StoreH StoreI StoreJ StoreK StoreV StoreW LockT LockU BackD BackL BackA
theorem lk_found (s key : Int) : ∀ (l : List Lk) (n : Int), 0 ≤ n → (∃ x ∈ l, x.s = s ∧ x.key = key) → 0 ≤ lkIdx s key l n
  | [], n, _, h => by obtain ⟨x, hx, _⟩ := h; exact (List.not_mem_nil hx).elim
  | g :: l, n, hn, h => by
    unfold lkIdx
    split
    · exact hn
    · rename_i hg
      refine lk_found s key l (n + 1) (by omega) ?_
      obtain ⟨x, hx, e⟩ := h
      rcases List.mem_cons.1 hx with rfl | hx
      · exact absurd e hg
      · exact ⟨x, hx, e⟩
theorem take_same {ks : List Lk} {s key md : Int} (hm : ∀ x ∈ ks, x.mode = 2) (hmd : md ≤ 2) (hx : ∃ x ∈ ks, x.s = s ∧ x.key = key) : takeL ks s key md = ks := by
  have h0 := lk_found s key ks 0 (Int.le_refl 0) hx
  unfold takeL
  rw [if_neg (by omega)]
  apply List.ext_getElem?
  intro j
  rw [List.getElem?_modify]
  cases hj : ks[j]? with
  | none => simp
  | some y =>
    have h2 := hm y (List.mem_of_getElem? hj)
    cases y
    simp at h2 ⊢
    intro _
    omega
theorem more_le (F : FS) (key : Int) : (moreL F key).length ≤ F.ks.length := by
  unfold moreL heldL
  refine Nat.le_trans (List.length_filter_le _ _) ?_
  rw [List.length_map]
  exact List.length_filter_le _ _
structure TSt (N m : Nat) (ch : Int → List Int) (key v fr : Int) (F : FS) : Prop where
  ok : FOk N m ch (fun _ => 2) F
  ch1 : ch 1 = [2]
  same : F.P = 4 ∧ F.sess = 1 ∧ F.most = 1 ∧ F.of 0 = 1 ∧ F.S.frames = 2 ∧ F.free = fr
  has_ : thas F.ts 1 = true
  kok : KOk (fun _ => 0) F.ks
  held : ∃ x ∈ F.ks, x.s = 0 ∧ x.key = key
  kl : F.ks.length ≤ 1
  val_ : vals F key = some v
  last : 2 ≤ F.S.l.last
theorem beg4 {N : Nat} (hN : N = (1 + 4 + 60 : Int).toNat) : FOk N 0 (updc (fun _ => []) 1 []) (fun _ => 2) (beginF (newF 4 60 2 1) 0) := by
  rw [hN]
  exact begin_ok (n := 0) (new_ok (P := 4) (blocks := 60) (frames := 2) (sess := 1) 0 (by omega) (by omega) (by omega)) rfl (by decide) (by decide) rfl (by decide) (by decide)
theorem tw_start {key v : Int} (hk : 0 ≤ key ∧ key < 100) (hv : is64 v) : ∃ F' ch, putR (beginF (newF 4 60 2 1) 0) 0 key v 0 = (F', 0, false, none) ∧ TSt (1 + 4 + 60 : Int).toNat 1 ch key v 355 F' := by
  have hb := beg4 rfl
  obtain ⟨p1, p2⟩ := placeOf_in key (show (1 : Int) ≤ 4 by omega)
  have hid : thas (beginF (newF 4 60 2 1) 0).ts 1 = true := by decide
  have hcur : cur (beginF (newF 4 60 2 1) 0).S (placeOf key 4) = (0, []) := by
    show cur (addRec _ _) _ = _
    rw [addRec_cur]
    exact cur_new (by omega) (by omega)
  have hvn : vals (beginF (newF 4 60 2 1) 0) key = none := by
    unfold vals
    rw [show (beginF (newF 4 60 2 1) 0).P = 4 from rfl, hcur]
    rfl
  have hk0 : KOk (fun _ => 0) (beginF (newF 4 60 2 1) 0).ks := KOk.nil _
  obtain ⟨t1, t2, t3, t4, t5, t6, t7, t8, t9⟩ := takes_ok (key := key) (n := 0) hb hk0 rfl (by omega) 0
  obtain ⟨F', e1, e2, e3, e4⟩ := chg_put (n := 0) (key := key) (v := v) (hint := 0) hb hk0 rfl hid (by omega) hv (by decide) (.inr (by
    have hm := more_le (takesF (beginF (newF 4 60 2 1) 0) 0 key 2 0) key
    have hl : (takesF (beginF (newF 4 60 2 1) 0) 0 key 2 0).ks.length ≤ 1 := t9
    have hc2 := t5 _ p1 p2
    unfold fullB
    rw [show (takesF (beginF (newF 4 60 2 1) 0) 0 key 2 0).P = 4 from rfl, hc2, hcur]
    simp
    omega))
  rw [hvn] at e1
  obtain ⟨s1, s2, s3, s4, s5, s6⟩ := e2.same
  have hlast : (beginF (newF 4 60 2 1) 0).S.l.last = 1 := by decide
  refine ⟨F', _, e1, ⟨e2.ok, ?_, ⟨s1, s2, s3, ?_, s6, s5⟩, e2.has_, e3, ?_, ?_, ?_, ?_⟩⟩
  · show updc _ 1 _ 1 = _
    unfold updc
    rw [if_pos rfl, hlast]
    rfl
  · rw [s4]; rfl
  · rw [e4]
    obtain ⟨x, x1, x2, x3, x4⟩ := t8
    exact ⟨x, x1, x4, x3⟩
  · rw [e4]; exact t9
  · rw [e2.vals_, if_pos rfl]
  · rw [e2.last, hlast]; omega
theorem tw_put {N m : Nat} {ch : Int → List Int} {key v fr u : Int} {F : FS} (h : TSt N m ch key v fr F) (hk : 0 ≤ key ∧ key < 100) (hu : is64 u) (hfr : 2 ≤ fr) :
    ∃ F', putR F 0 key u 0 = (F', v, true, none) ∧ ChgR N m ch (fun _ => 2) F 1 key (some u) F' ∧ F'.ks = F.ks := by
  obtain ⟨s1, s2, s3, s4, s5, s6⟩ := h.same
  have hid : thas F.ts (F.of 0) = true := by rw [s4]; exact h.has_
  obtain ⟨F', e1, e2, e3, e4⟩ := chg_put (n := 0) (key := key) (v := u) (hint := 0) h.ok h.kok rfl hid (by omega) hu (by omega) (.inl (by rw [h.val_]; rfl))
  rw [h.val_] at e1
  rw [s4] at e2
  exact ⟨F', e1, e2, e4.trans (take_same h.kok.mode (Int.le_refl 2) h.held)⟩
theorem tw_back {N m : Nat} {ch : Int → List Int} {key v fr u : Int} {F F1 F2 : FS} (h : TSt N m ch key v fr F) (hc : ChgR N m ch (fun _ => 2) F 1 key (some u) F1) (hks : F1.ks = F.ks) (hu : UndoR N (m + 1) (updc ch 1 ((F.S.l.last + 1) :: ch 1)) (fun _ => 2) F1 1 [F.S.l.last + 1] [2] F2) :
    ∃ ch', TSt N (m + 2) ch' key v (fr - 2) F2 ∧ F2.S.l.last = F.S.l.last + 2 := by
  obtain ⟨s1, s2, s3, s4, s5, s6⟩ := h.same
  obtain ⟨q1, q2, q3, q4, q5, q6⟩ := hc.same
  obtain ⟨r1, r2, r3, r4, r5, r6, r7⟩ := hu.same
  have hl : F2.S.l.last = F.S.l.last + 2 := by
    rw [hu.last, hc.last]
    simp
    omega
  have hks2 : F2.ks = F.ks := r3.trans hks
  refine ⟨_, ⟨hu.ok, ?_, ⟨r1.trans (q1.trans s1), r2.trans (q2.trans s2), r4.trans (q3.trans s3), by rw [r5, q4, s4], r7.trans (q6.trans s5), by rw [r6, q5, s6]⟩, hu.has_, by rw [hks2]; exact h.kok, by rw [hks2]; exact h.held, by rw [hks2]; exact h.kl, ?_, ?_⟩, hl⟩
  · unfold updc
    rw [if_pos rfl]
  · rw [hu.vals_ key]
    show rewV F1.S.l [] (undoV F1.S.l (F.S.l.last + 1) (vals F1)) key = _
    rw [hc.rew]
    exact h.val_
  · have := h.last
    omega
theorem tw_get {N m : Nat} {ch : Int → List Int} {key v fr : Int} {F : FS} (h : TSt N m ch key v fr F) : TSt N (m + 1) ch key v fr (takesF F 0 key 1 0) ∧ has (cur F.S (placeOf key F.P)).2 key = true ∧ fromOf (cur F.S (placeOf key F.P)).2 key = v ∧ whoL F.ks 0 key 1 = [] := by
  obtain ⟨s1, s2, s3, s4, s5, s6⟩ := h.same
  obtain ⟨r1, r2, r3, r4, r5, r6, r7⟩ := read_ok h.ok 0 key 0
  have hks : (takesF F 0 key 1 0).ks = F.ks := take_same h.kok.mode (by omega) h.held
  refine ⟨⟨r1, h.ch1, ⟨s1, s2, s3, s4, by rw [r5]; exact s5, s6⟩, h.has_, by rw [hks]; exact h.kok, by rw [hks]; exact h.held, by rw [hks]; exact h.kl, by rw [r2]; exact h.val_, by rw [r3]; exact h.last⟩, by rw [r6, h.val_]; rfl, by rw [r7, h.val_]; rfl, who_one (fun x hx => (h.kok.own x hx).symm) key 1⟩
theorem tw_same {N m : Nat} {ch : Int → List Int} {key v fr : Int} {F F2 : FS} (h : TSt N m ch key v fr F) (hu : UndoR N m ch (fun _ => 2) F 1 [] [2] F2) : ∃ ch', TSt N m ch' key v fr F2 ∧ F2.S.l.last = F.S.l.last := by
  obtain ⟨s1, s2, s3, s4, s5, s6⟩ := h.same
  obtain ⟨r1, r2, r3, r4, r5, r6, r7⟩ := hu.same
  have hl : F2.S.l.last = F.S.l.last := by
    have := hu.last
    simpa using this
  have hks2 : F2.ks = F.ks := r3
  refine ⟨_, ⟨hu.ok, ?_, ⟨r1.trans s1, r2.trans s2, r4.trans s3, by rw [r5, s4], r7.trans s5, by rw [r6, s6]⟩, hu.has_, by rw [hks2]; exact h.kok, by rw [hks2]; exact h.held, by rw [hks2]; exact h.kl, ?_, by rw [hl]; exact h.last⟩, hl⟩
  · unfold updc
    rw [if_pos rfl]
  · rw [hu.vals_ key]
    exact h.val_
theorem tw_tx {N m : Nat} {ch : Int → List Int} {key v fr : Int} {F : FS} (h : TSt N m ch key v fr F) : (tget F.ts 1).id = 1 ∧ (tget F.ts 1).next = 2 := by
  obtain ⟨hx, hid⟩ := tget_mem h.has_
  refine ⟨hid, ?_⟩
  rw [h.ok.c.next _ hx, hid, h.ch1]
  rfl
theorem tw_last {N m : Nat} {ch : Int → List Int} {key v fr : Int} {F : FS} (h : TSt N m ch key v fr F) : 0 ≤ F.S.l.last ∧ F.S.l.last ≤ 1073741824 := by
  have := h.ok.g.lok.base
  have h2 := h.ok.g.lok.last
  have h3 := h.last
  unfold Lg.last at *
  omega
end Go.Proofs.YtaplpeoikebedaaGreatDoor.TwiceD
