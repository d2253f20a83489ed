/- Joined texts: FwdL, BackM, BackW. No condition but what each says. -/
import Derived.Test.YtaplpeoikebedaaGreatDoorV32
import Derived.Test.YtaplpeoikebedaaGreatDoorV27
import Derived.Deep.RegionLaw
import Derived.Deep.DeepCutAuto
set_option maxHeartbeats 8000000
set_option maxRecDepth 100000
set_option linter.unusedVariables false
set_option linter.unusedSimpArgs false
namespace Go.Proofs.YtaplpeoikebedaaGreatDoor.FwdL
open Go.RowKit Go.Maps YtaplpeoikebedaaGreatDoorW.PrintWords YtaplpeoikebedaaGreatDoorW.PrintLast YtaplpeoikebedaaGreatDoorW.PrintMore
open See Mem Page Disk DiskN DiskW RecD Dirty Wal SysD SysM StoreD StoreF StoreH TransT LockT LockU LockF SpaceT WaitT FwdM FwdP FwdC FwdN EndT
attribute [local go_sem] max2_imax min2_imin max_two min_two
def leaveF (F : FS) (n id : Int) : FS := { F with S := addRec F.S (recMark (tget F.ts id) 6), kept := F.kept - 1, ts := tdrop F.ts id, ks := [], of := upd F.of n 0 }
theorem leave_calls (a : Nat → Addr) (M : Nat → Prop) (sp lp pp dp qp mp : Nat) (blocks frames : Int) (F : FS) (n id : Int) (w : World) (h : FwM M w sp lp pp dp qp mp blocks frames F) (hs : SentsAll w a) (hO : OutAll M a) (h0 : 0 ≤ n) (h1 : n ≤ 1000) (hof : F.of n = id) (hid : thas F.ts id = true) (hr : Rising (kvT F.ts)) (htid : (tget F.ts id).id = id) (hk : 1 ≤ F.kept ∧ F.kept ≤ 1073741824) (hrec : recOk (recMark (tget F.ts id) 6) = true) (hroom : 1 ≤ F.S.l.room) (hall : ∀ x ∈ F.ks, x.s = n) :
    Calls Tryz.prog 77 #[.pointer (some ⟨sp, 0, none⟩), .int .i64 n] w fun e w' => e = .returned .nilIface ∧ FwPost M sp lp pp dp qp mp blocks frames (leaveF F n id) w w' := by
  have HF := Aside0.mk (fun (W : World) (hb : Below w.heap.size w W) => h.below hb)
  obtain ⟨kv, tv, b1, _, _, b4, _⟩ := h.box
  have HG := Aside0.mk (fun (W : World) (hb : Below w.heap.size w W) => by
    have := tget_calls sp 8 tv F.ts id W (b4.below hb) hr (pw_cell_below hb (show w.cell? ⟨sp, 8, none⟩ = some tv by simp [World.cell?, b1, fwCells]))
    rw [hid] at this
    exact this)
  have hspl := heap_lt b1
  have HEND := Aside0.mk (show ∀ (V : World), Below w.heap.size w V → Calls Tryz.prog 136 #[.pointer (some ⟨lp, 0, none⟩), .pointer (some ⟨sp, 8, none⟩), .pointer (some ⟨qp, 0, none⟩), txV (tget F.ts id)] V fun e w' => e = .returned .nilIface ∧ FwPost M sp lp pp dp qp mp blocks frames { addK F (recMark (tget F.ts id) 6) with ts := tdrop F.ts id } w w' from fun V hb =>
    (end_calls a M sp lp pp dp qp mp blocks frames F id V (h.below hb) (hs.below hb) hO hid hr htid hk hrec hroom).mono fun e w' hh => ⟨hh.1, hh.2.back hb⟩)
  have HALL := Aside0.mk hall
  have HWF := Aside0.mk (wf64 (n := n) (by omega) (by omega))
  obtain ⟨x, hxx⟩ : ∃ x, tget F.ts id = x := ⟨_, rfl⟩
  have HXX := Aside0.mk hxx
  rw [hxx] at HG HEND
  have hlk := OfM.look h.of (s := n) (by omega) (by omega)
  have hlk2 := OfM.look (HF.out (w.alloc z4) (below_alloc (Below.refl _ _) _)).of (s := n) (by omega) (by omega)
  have hlk3 := OfM.look (HF.out w.drew (below_drew1 (Below.refl _ _))).of (s := n) (by omega) (by omega)
  have hlk4 := OfM.look (HF.out (w.alloc z4).drew (below_drew1 (below_alloc (Below.refl _ _) _))).of (s := n) (by omega) (by omega)
  have hlk5 := OfM.look (HF.out (w.drew.alloc z4) (below_alloc (below_drew1 (Below.refl _ _)) _)).of (s := n) (by omega) (by omega)
  rw [hof] at hlk hlk2 hlk3 hlk4 hlk5
  obtain ⟨_, _, k4, _, k7, _, k10, k11⟩ := h.cells
  have HC := Aside0.mk (And.intro k4 k10)
  have HN := Aside0.mk (And.intro h0 h1)
  have HH := Aside0.mk h
  have HG2 := Aside0.mk (fun (V : World) (hb : Below w.heap.size w V) (b : Nat) (o : Obj) (hx : V.heap[b]? = some o) => (HG.out V hb).mono (fun e w' h => (⟨h.1, h.2, (h.2.block b (heap_lt hx)).trans hx⟩ : e = .returned (.tuple #[txV x, .bool true]) ∧ Below V.heap.size V w' ∧ w'.heap[b]? = some o)))
  obtain ⟨xi, xs, xl, xn⟩ := x
  simp only [txV, z4] at *
  clear h hs hO hof hid hr htid hk hrec hroom hall hxx b1 b4 k4 k10 h0 h1
  go_enter Tryz.func77, Tryz.ntmps77
  go_upto_region 1 with fail
  go_cut [5, 6] (fun v5 v6 wx => v6 = .bool true ∧ ∃ b, v5 = .pointer (some ⟨b, 0, none⟩) ∧ Aside0 (wx.heap[b]? = some (.cells #[.int .i64 xi, .int .i64 xs, .int .i64 xl, .int .i64 xn] 102 (0, 0))) ∧ Aside0 (Below w.heap.size w wx))
  case first =>
    go_region_law (first
      | (go_simp; go_at_call 113; refine (HG2.out _ (by repeat (first | exact Below.refl _ _ | apply below_drew1 | apply below_alloc)) w.heap.size _ (by exact heap_alloc_new w _)).mono ?_; rintro e w2 ⟨rfl, hb2, hbo⟩; obtain ⟨o0, o1, o2, o3, g0, g1, g2, g3⟩ := tx_cells hbo)
      | (go_simp; go_at_call 113; refine (HG.out _ (by repeat (first | exact Below.refl _ _ | apply below_drew1 | apply below_alloc))).mono ?_; rintro e w2 ⟨rfl, hb2⟩))
    all_goals
      have hbw : Below w.heap.size w w2 := below_step (by repeat (first | exact Below.refl _ _ | apply below_drew1 | apply below_alloc)) hb2
      first
        | (rw [show (((w2.setCell ⟨w.heap.size, 0, none⟩ (.int .i64 xi)).setCell ⟨w.heap.size, 1, none⟩ (.int .i64 xs)).setCell ⟨w.heap.size, 2, none⟩ (.int .i64 xl)).setCell ⟨w.heap.size, 3, none⟩ (.int .i64 xn) = txPut w2 w.heap.size ⟨xi, xs, xl, xn⟩ from rfl]
           have HH1 := Aside0.mk (txPut_heap hbo ⟨xi, xs, xl, xn⟩)
           have HH2 := Aside0.mk (txPut_below hbw (Nat.le_refl _) ⟨xi, xs, xl, xn⟩)
           clear o0 o1 o2 o3 g0 g1 g2 g3 hbo hb2 hbw hlk hlk2 hlk3 hlk4 hlk5
           generalize txPut w2 w.heap.size ⟨xi, xs, xl, xn⟩ = wd at HH1 HH2 ⊢)
        | (have HH1 := Aside0.mk (heap_alloc_new w2 (.cells #[.int .i64 xi, .int .i64 xs, .int .i64 xl, .int .i64 xn] 102))
           have HH2 := Aside0.mk (below_alloc hbw (.cells #[.int .i64 xi, .int .i64 xs, .int .i64 xl, .int .i64 xn] 102))
           clear hb2 hbw hlk hlk2 hlk3 hlk4 hlk5
           generalize w2.alloc (.cells #[.int .i64 xi, .int .i64 xs, .int .i64 xl, .int .i64 xn] 102) = wd at HH1 HH2 ⊢)
      go_wp2_with fail
      go_meet
      exact ⟨rfl, _, rfl, HH1, HH2⟩
  case rest =>
    obtain ⟨rfl, b, rfl, HXB, HBC⟩ := hcut
    clear hlk hlk2 hlk3 hlk4 hlk5 k7 k11
    generalize wc = V0 at HXB HBC ⊢
    have j4 := pw_cell_below HBC.out HC.out.1
    have j10 := pw_cell_below HBC.out HC.out.2
    obtain ⟨x0, x1, x2, x3, _, _, _, _⟩ := tx_cells HXB.out
    go_upto_region 2 with fail
    go_cut [7] (fun v7 wx => v7 = .nilIface ∧ Aside0 (FwPost M sp lp pp dp qp mp blocks frames { addK F (recMark (tget F.ts id) 6) with ts := tdrop F.ts id } w wx))
    case first =>
      go_region_law (first
        | (go_simp; go_at_call 136; refine (HEND.out _ (by repeat (first | exact HBC.out | apply below_drew1))).mono ?_; rintro e w4 ⟨rfl, hp4⟩; have HP4 := Aside0.mk hp4; clear hp4))
      all_goals
        go_wp2_with fail
        go_meet
        exact ⟨rfl, by rw [HXX.out]; exact HP4⟩
    case rest =>
      obtain ⟨rfl, HP4⟩ := hcut
      generalize wc = V1 at HP4 ⊢
      clear j4 j10 x0 x1 x2 x3
      obtain ⟨cs, kv2, hlk, hput⟩ := FwM.lks HP4.out.1
      have HLK := Aside0.mk hlk
      have HPT := Aside0.mk hput
      clear hlk hput
      go_wp2_with fail
      refine (free_calls _ sp 6 118 cs kv2 F.ks n _ HLK.out HALL.out).mono ?_
      rintro e w5 ⟨rfl, hpost⟩
      have HP5 := Aside0.mk (HPT.out _ _ hpost)
      clear hpost HLK HPT
      have j7 := HP5.out.1.cells.2.2.2.2.1
      go_wp2_with fail
      refine (wgone_nil sp 7 n _ j7 (by have := HN.out; omega) (by have := HN.out; omega)).mono ?_
      rintro e w6 ⟨rfl, hb6⟩
      have HP6 := Aside0.mk (FwPost.step HP5.out hb6)
      clear hb6 j7
      have j11 := HP6.out.1.cells.2.2.2.2.2.2.2
      obtain ⟨n0, D, hown, hn0, hat⟩ := HP6.out.1.of
      have HOWN := Aside0.mk hown
      have HAT := Aside0.mk hat
      have HN0 := Aside0.mk hn0
      clear hown hat hn0
      go_wp2_with (first | (at_delete; refine wpList_delete_own _ rfl _ _ 116 3 rfl 3 (int_keyed Tryz.underlying3) Tryz.underlying116 _ mp n0 D rfl HOWN.out _ _ rfl (keyOf_int_mk Tryz.underlying3 HWF.out) ?_; intro w7 hown7 hg7))
      have HO7 := Aside0.mk (ofm_del (m := F.most) HOWN.out HAT.out hown7 HN0.out)
      have HP7 := Aside0.mk (FwM.mp_ HP6.out.1 HO7.out hg7.grown)
      clear hown7 hg7 j11
      have HPA := Aside0.mk (FwPost.trans HP4.out fun _ => FwPost.trans HP6.out fun _ => HP7.out)
      go_ret
      exact ⟨rfl, HPA.out⟩
end Go.Proofs.YtaplpeoikebedaaGreatDoor.FwdL
namespace Go.Proofs.YtaplpeoikebedaaGreatDoor.BackM
open Go.RowKit Go.Maps YtaplpeoikebedaaGreatDoorW.PrintWords YtaplpeoikebedaaGreatDoorW.PrintLast YtaplpeoikebedaaGreatDoorW.PrintMore
open See Mem Page Disk Pool2 SysD SysM StoreD StoreF TransT LockT LockU SpaceT WaitT FwdM FwdP FwdC FwdT
attribute [local go_sem] max2_imax min2_imin max_two min_two
structure Sv where
  txn : Int
  l : List Int
structure BSt where
  F : FS
  sv : Int → Sv
  nu : Int
def rS (v : Value) : Option (DataW Value × List MemPlace) := some (.held v, [])
def svV (t : Int) (sl : Value) : Value := .agg #[.int .i64 t, sl]
def svz : Value := svV 0 (.slice none 0 0)
def SvM (w : World) (bm : Nat) (m : Int) (vv : Int → Value) : Prop :=
  ∃ (n : Nat) (D : DataW Value), w.ownsMap Tryz.prog 3 rS bm n D ∧ (n : Int) ≤ m ∧ ∀ s : Int, D.atKey (.int .i64 s) (.held svz) = .held (vv s)
theorem SvM.move {w w' : World} {bm : Nat} {m : Int} {vv : Int → Value} (h : SvM w bm m vv) (hb : w'.heap[bm]? = w.heap[bm]?) : SvM w' bm m vv := by
  obtain ⟨n, D, ⟨es, cl, h1, h2⟩, h3⟩ := h
  exact ⟨n, D, ⟨es, cl, hb.trans h1, h2⟩, h3⟩
theorem SvM.map {w : World} {bm : Nat} {m : Int} {vv : Int → Value} (h : SvM w bm m vv) : ∃ es cl, w.heap[bm]? = some (.map es cl) := by
  obtain ⟨n, D, ⟨es, cl, h1, h2⟩, h3⟩ := h
  exact ⟨es, cl, h1⟩
structure BkIn (M : Nat → Prop) (w : World) (bp bm sp lp pp dp qp mp : Nat) (blocks frames : Int) (B : BSt) (R : Nat → Prop) (sl : Int → Value) : Prop where
  box : w.heap[bp]? = some (.cells #[.pointer (some ⟨sp, 0, none⟩), .map (some bm)] 61 (0, 0))
  f : FwM R w sp lp pp dp qp mp blocks frames B.F
  map : SvM w bm B.nu (fun s => svV (B.sv s).txn (sl s))
  row : ∀ s, IS w 0 (sl s) (B.sv s).l
  r : ∀ k, R k → M k ∧ k ≠ bp ∧ k ≠ bm ∧ ∀ s, (sl s).ownBlock ≠ some k
  own : ∀ s k, (sl s).ownBlock = some k → M k
  apart : ∀ s t k, (sl s).ownBlock = some k → (sl t).ownBlock = some k → s = t
  low : M bp ∧ M bm
def BkM (M : Nat → Prop) (w : World) (bp bm sp lp pp dp qp mp : Nat) (blocks frames : Int) (B : BSt) : Prop := ∃ R sl, BkIn M w bp bm sp lp pp dp qp mp blocks frames B R sl
def BkPost (M : Nat → Prop) (bp bm sp lp pp dp qp mp : Nat) (blocks frames : Int) (B : BSt) (w w' : World) : Prop := BkM (Gr M w w') w' bp bm sp lp pp dp qp mp blocks frames B ∧ Kp M w w'
section
variable {M R : Nat → Prop} {bp bm sp lp pp dp qp mp : Nat} {blocks frames : Int} {B : BSt} {sl : Int → Value} {w w1 w2 w' : World}
theorem BkIn.rowAt (h : BkIn M w bp bm sp lp pp dp qp mp blocks frames B R sl) {s : Int} {k : Nat} (hk : (sl s).ownBlock = some k) : k < w.heap.size ∧ tag w k = 3 ∧ ¬ R k := by
  obtain ⟨_, c, hc⟩ := ow_block (h.row s) hk
  exact ⟨heap_lt hc, tag_of hc, fun hr => (h.r k hr).2.2.2 s hk⟩
theorem BkIn.cells (h : BkIn M w bp bm sp lp pp dp qp mp blocks frames B R sl) : w.cell? ⟨bp, 0, none⟩ = some (.pointer (some ⟨sp, 0, none⟩)) ∧ w.cell? ⟨bp, 1, none⟩ = some (.map (some bm)) := by
  have hb := h.box
  refine ⟨?_, ?_⟩ <;> simp [World.cell?, hb]
theorem BkIn.mono {M' : Nat → Prop} (h : BkIn M w bp bm sp lp pp dp qp mp blocks frames B R sl) (hm : ∀ k, M k → M' k) : BkIn M' w bp bm sp lp pp dp qp mp blocks frames B R sl :=
  ⟨h.box, h.f, h.map, h.row, fun k hk => ⟨hm k (h.r k hk).1, (h.r k hk).2⟩, fun s k hk => hm k (h.own s k hk), h.apart, hm _ h.low.1, hm _ h.low.2⟩
theorem BkM.mono {M' : Nat → Prop} (h : BkM M w bp bm sp lp pp dp qp mp blocks frames B) (hm : ∀ k, M k → M' k) : BkM M' w bp bm sp lp pp dp qp mp blocks frames B := by
  obtain ⟨R, sl, h⟩ := h
  exact ⟨R, sl, h.mono hm⟩
theorem BkM.below (h : BkM M w bp bm sp lp pp dp qp mp blocks frames B) (hb : Below w.heap.size w w') : BkM M w' bp bm sp lp pp dp qp mp blocks frames B := by
  obtain ⟨R, sl, h⟩ := h
  obtain ⟨es, cl, hm⟩ := h.map.map
  exact ⟨R, sl, (hb.block _ (heap_lt h.box)).trans h.box, h.f.below hb, h.map.move (hb.block _ (heap_lt hm)), fun s => (h.row s).below hb, h.r, h.own, h.apart, h.low⟩
theorem BkIn.below (h : BkIn M w bp bm sp lp pp dp qp mp blocks frames B R sl) (hb : Below w.heap.size w w') : BkIn M w' bp bm sp lp pp dp qp mp blocks frames B R sl := by
  obtain ⟨es, cl, hm⟩ := h.map.map
  exact ⟨(hb.block _ (heap_lt h.box)).trans h.box, h.f.below hb, h.map.move (hb.block _ (heap_lt hm)), fun s => (h.row s).below hb, h.r, h.own, h.apart, h.low⟩
theorem BkIn.cutR (h : BkIn M w bp bm sp lp pp dp qp mp blocks frames B R sl) : BkIn M w bp bm sp lp pp dp qp mp blocks frames B (Cut R w.heap.size) sl :=
  ⟨h.box, FwM.cut h.f, h.map, h.row, fun k hk => h.r k hk.1, h.own, h.apart, h.low⟩
theorem BkIn.fwI (h : BkIn M w bp bm sp lp pp dp qp mp blocks frames B R sl) {F' : FS} (hp : FwPost R sp lp pp dp qp mp blocks frames F' w w') : BkIn (Gr M w w') w' bp bm sp lp pp dp qp mp blocks frames { B with F := F' } (Gr R w w') sl ∧ Kp M w w' := by
  obtain ⟨f, k⟩ := hp
  obtain ⟨es, cl, hm⟩ := h.map.map
  have nb : ¬ R bp := fun hr => (h.r bp hr).2.1 rfl
  have nm : ¬ R bm := fun hr => (h.r bm hr).2.2.1 rfl
  refine ⟨⟨k.at h.box nb, f, h.map.move (k.block _ (heap_lt hm) nm), fun s => ow_move (h.row s) fun j hj => ?_, fun j hj => ?_, fun s j hj => .inl (h.own s j hj), h.apart, .inl h.low.1, .inl h.low.2⟩, k.wide fun j hj => (h.r j hj).1⟩
  · obtain ⟨q1, _, q3⟩ := h.rowAt hj
    exact k.block j q1 q3
  · rcases hj with hj | ⟨q1, q2⟩
    · obtain ⟨a, b, c, d⟩ := h.r j hj
      exact ⟨.inl a, b, c, d⟩
    · refine ⟨.inr ⟨q1, q2⟩, fun e => ?_, fun e => ?_, fun s hs => ?_⟩
      · have := heap_lt h.box; omega
      · have := heap_lt hm; omega
      · have := (h.rowAt hs).1; omega
theorem BkIn.fw (h : BkIn M w bp bm sp lp pp dp qp mp blocks frames B R sl) {F' : FS} (hp : FwPost R sp lp pp dp qp mp blocks frames F' w w') : BkPost M bp bm sp lp pp dp qp mp blocks frames { B with F := F' } w w' := ⟨⟨_, sl, (h.fwI hp).1⟩, (h.fwI hp).2⟩
theorem BkIn.but (h : BkIn M w bp bm sp lp pp dp qp mp blocks frames B R sl) {b : Nat} (hb : ∀ k, k ≠ b → w'.heap[k]? = w.heap[k]?) (hn : ¬ R b) (ht : tag w b ∉ dTags ∧ tag w b ≠ 169) (h1 : b ≠ bp) (h2 : b ≠ bm) (h3 : tag w b ≠ 3) : BkIn M w' bp bm sp lp pp dp qp mp blocks frames B R sl :=
  ⟨(hb bp h1.symm).trans h.box, FwM.but h.f hb hn ht, h.map.move (hb bm h2.symm), fun s => ow_move (h.row s) fun j hj => hb j fun e => h3 (by rw [← e]; exact (h.rowAt hj).2.1), h.r, h.own, h.apart, h.low⟩
theorem BkPost.refl (h : BkM M w bp bm sp lp pp dp qp mp blocks frames B) : BkPost M bp bm sp lp pp dp qp mp blocks frames B w w := ⟨h.mono fun _ h => .inl h, .refl _ _⟩
theorem BkPost.trans {B' : BSt} (h : BkPost M bp bm sp lp pp dp qp mp blocks frames B w w1) (k : BkM (Gr M w w1) w1 bp bm sp lp pp dp qp mp blocks frames B → BkPost (Gr M w w1) bp bm sp lp pp dp qp mp blocks frames B' w1 w2) : BkPost M bp bm sp lp pp dp qp mp blocks frames B' w w2 := by
  obtain ⟨a, b⟩ := h
  obtain ⟨c, d⟩ := k a
  exact ⟨BkM.mono c fun j hj => Gr.trans b.size d.size hj, b.transG d⟩
theorem BkPost.step (h : BkPost M bp bm sp lp pp dp qp mp blocks frames B w w1) (k : Below w1.heap.size w1 w2) : BkPost M bp bm sp lp pp dp qp mp blocks frames B w w2 :=
  ⟨BkM.mono (BkM.below h.1 k) fun j hj => Gr.grow k.size hj, h.2.step k⟩
theorem BkM.cut (h : BkM M w bp bm sp lp pp dp qp mp blocks frames B) : BkM (Cut M w.heap.size) w bp bm sp lp pp dp qp mp blocks frames B := by
  obtain ⟨R, sl, h⟩ := h
  obtain ⟨es, cl, hm⟩ := h.map.map
  exact ⟨Cut R w.heap.size, sl, h.box, FwM.cut h.f, h.map, h.row, fun k hk => ⟨⟨(h.r k hk.1).1, hk.2⟩, (h.r k hk.1).2⟩, fun s k hk => ⟨h.own s k hk, (h.rowAt hk).1⟩, h.apart, ⟨h.low.1, heap_lt h.box⟩, ⟨h.low.2, heap_lt hm⟩⟩
end
end Go.Proofs.YtaplpeoikebedaaGreatDoor.BackM
namespace Go.Proofs.YtaplpeoikebedaaGreatDoor.BackW
open Go.RowKit Go.Maps YtaplpeoikebedaaGreatDoorW.PrintWords YtaplpeoikebedaaGreatDoorW.PrintLast YtaplpeoikebedaaGreatDoorW.PrintMore
open See Mem Page Disk Dirty Pool2 SysD SysM StoreD StoreF TransT LockT LockU SpaceT WaitT FwdM FwdP FwdC FwdE FwdT BackM
attribute [local go_sem] max2_imax min2_imin max_two min_two
theorem zero_sv (w : World) : (zeroValue 148).run Tryz.prog w = .ok svz w := by kernel_rfl
theorem SvM.look {w : World} {bm : Nat} {m : Int} {vv : Int → Value} (h : SvM w bm m vv) {s : Int} (h0 : -9223372036854775808 ≤ s) (h1 : s ≤ 9223372036854775807) :
    (Instr.lookup 59 (.map (some bm)) (.int .i64 s) false).run Tryz.prog w = .ok (vv s) w := by
  obtain ⟨n, D, hown, hn, hat⟩ := h
  obtain ⟨v, ps, hrun, hv⟩ := hown.lookup (int_keyed Tryz.underlying3) Tryz.underlying59 (zero_sv w) rfl (keyOf_int_mk Tryz.underlying3 (wf64 h0 h1))
  rw [hat s] at hv
  unfold rS at hv
  simp only [Option.some.injEq, Prod.mk.injEq, DataW.held.injEq] at hv
  rw [hv.1] at hrun
  exact hrun
def svOf (B : BSt) (n id : Int) : List Int := if (B.sv n).txn = id then (B.sv n).l else []
def slOf (B : BSt) (sl : Int → Value) (n id : Int) : Value := if (B.sv n).txn = id then sl n else .slice none 0 0
def svPut (w : World) (b : Nat) (t : Int) (v : Value) : World := (w.setCell ⟨b, 0, none⟩ (.int .i64 t)).setCell ⟨b, 1, none⟩ v
theorem svPut_heap {w : World} {b : Nat} {x0 x1 : Value} (h : w.heap[b]? = some (.cells #[x0, x1] 148 (0, 0))) (l : Int) (v : Value) : (svPut w b l v).heap[b]? = some (.cells #[.int .i64 l, v] 148 (0, 0)) := by
  have h0 := heap_setCell_same w b 0 _ _ (.int .i64 l) h
  have h1 := heap_setCell_same _ b 1 _ _ v h0
  have e : (((#[x0, x1] : Array Value).setIfInBounds 0 (.int .i64 l)).setIfInBounds 1 v) = #[.int .i64 l, v] := by simp
  rw [e] at h1
  exact h1
theorem svPut_other {w : World} {b k : Nat} (h : k ≠ b) (l : Int) (v : Value) : (svPut w b l v).heap[k]? = w.heap[k]? := by
  unfold svPut
  rw [Below.heap_setCell _ _ _ _ h, Below.heap_setCell _ _ _ _ h]
theorem svPut_below {B : Nat} {w w1 : World} {b : Nat} (h : Below B w w1) (hb : B ≤ b) (l : Int) (v : Value) : Below B w (svPut w1 b l v) := (h.setCell hb _).setCell hb _
theorem sv_cells {w : World} {b : Nat} {x0 x1 : Value} (h : w.heap[b]? = some (.cells #[x0, x1] 148 (0, 0))) :
    w.frozen? ⟨b, 0, none⟩ = false ∧ w.frozen? ⟨b, 1, none⟩ = false ∧ w.cell? ⟨b, 0, none⟩ = some x0 ∧ w.cell? ⟨b, 1, none⟩ = some x1 := by
  refine ⟨?_, ?_, ?_, ?_⟩ <;> simp [World.frozen?, World.cell?, h]
def zsv : Obj := .cells #[.int .i64 0, .slice none 0 0] 148
theorem bcalled_calls (M R : Nat → Prop) (bp bm sp lp pp dp qp mp : Nat) (blocks frames : Int) (B : BSt) (sl : Int → Value) (n : Int) (w : World) (h : BkIn M w bp bm sp lp pp dp qp mp blocks frames B R sl) (h0 : 0 ≤ n) (h1 : n < B.F.sess) (h2 : B.F.sess ≤ 1000) (hx : thas B.F.ts (B.F.of n) = true) (hr : Rising (kvT B.F.ts)) :
    Calls Tryz.prog 85 #[.pointer (some ⟨bp, 0, none⟩), .int .i64 n] w fun e w' => e = .returned (.tuple #[txV (tget B.F.ts (B.F.of n)), svV (tget B.F.ts (B.F.of n)).id (slOf B sl n (tget B.F.ts (B.F.of n)).id), .nilIface]) ∧ Below w.heap.size w w' := by
  have HC := Aside0.mk (fun (W : World) (hb : Below w.heap.size w W) => called_calls R sp lp pp dp qp mp blocks frames B.F n W (h.f.below hb) h0 h1 h2 hx hr)
  have HB := Aside0.mk h.box
  have HM := Aside0.mk h.map
  obtain ⟨A, c, hsl, _⟩ := ow_slice (h.row n)
  obtain ⟨k, hk⟩ : ∃ k, (B.sv n).l.length = k := ⟨_, rfl⟩
  rw [hk] at hsl
  have HWN := Aside0.mk (And.intro h0 (And.intro h1 h2))
  obtain ⟨x, hxx⟩ : ∃ x, tget B.F.ts (B.F.of n) = x := ⟨_, rfl⟩
  rw [hxx] at HC ⊢
  obtain ⟨es, cl, hmm⟩ := h.map.map
  have hbl := heap_lt h.box
  have hml := heap_lt hmm
  obtain ⟨t, ht⟩ : ∃ t, (B.sv n).txn = t := ⟨_, rfl⟩
  have HT := Aside0.mk ht
  have HSL := Aside0.mk hsl
  obtain ⟨xi, xs, xl, xn⟩ := x
  simp only [txV] at HC
  obtain ⟨W, hW⟩ : ∃ W, (w.alloc z4).alloc zsv = W := ⟨_, rfl⟩
  have hz0 : W.heap[w.heap.size]? = some z4 := by rw [← hW]; exact (Below.heap_alloc _ _ _ (by show _ < (w.heap.push _).size; rw [Array.size_push]; omega)).trans (heap_alloc_new w _)
  have hz1 : W.heap[w.heap.size + 1]? = some zsv := by
    rw [← hW]; have := heap_alloc_new (w.alloc z4) zsv; rw [show (w.alloc z4).heap.size = w.heap.size + 1 from by show (w.heap.push _).size = _; rw [Array.size_push]] at this; exact this
  have hsW : W.heap.size = w.heap.size + 2 := by rw [← hW]; show ((w.heap.push _).push _).size = _; rw [Array.size_push, Array.size_push]
  have HBW := Aside0.mk (show Below w.heap.size w W by rw [← hW]; repeat (first | exact Below.refl _ _ | apply below_drew1 | apply below_alloc))
  have HQ0 := Aside0.mk hz0
  have HQ1 := Aside0.mk hz1
  have HSW := Aside0.mk hsW
  have hbW : W.heap[bp]? = some (.cells #[.pointer (some ⟨sp, 0, none⟩), .map (some bm)] 61 (0, 0)) := (HBW.out.block _ hbl).trans h.box
  have b0 : W.cell? ⟨bp, 0, none⟩ = some (.pointer (some ⟨sp, 0, none⟩)) := by simp [World.cell?, hbW]
  have hbpl : bp < W.heap.size := by omega
  have HWE := Aside0.mk hW
  clear h hx hr h0 h1 h2 hxx hmm ht hsl hk hz0 hz1 hsW hW hbW
  go_enter Tryz.func85, Tryz.ntmps85
  go_upto_region 1 with fail
  rw [show (w.alloc (.cells #[.int .i64 0, .int .i64 0, .int .i64 0, .int .i64 0] 102)).alloc (.cells #[.int .i64 0, .slice none 0 0] 148) = W from HWE.out]
  go_wp2_with fail
  refine (HC.out _ HBW.out).mono ?_
  rintro e w1 ⟨rfl, hb⟩
  have HB1 := Aside0.mk (below_step HBW.out hb)
  have HQ0' := Aside0.mk ((hb.block _ (heap_lt HQ0.out)).trans HQ0.out)
  have HQ1' := Aside0.mk ((hb.block _ (heap_lt HQ1.out)).trans HQ1.out)
  have hs1 : w.heap.size + 2 ≤ w1.heap.size := by have := hb.size; have := HSW.out; omega
  obtain ⟨bx, hbx⟩ : ∃ bx, w1.heap.size = bx := ⟨_, rfl⟩
  obtain ⟨W1, hW1⟩ : ∃ W1, w1.alloc (.cells #[.int .i64 xi, .int .i64 xs, .int .i64 xl, .int .i64 xn] 102) = W1 := ⟨_, rfl⟩
  have hbn : Below w1.heap.size w1 W1 := by rw [← hW1]; exact below_alloc (Below.refl _ _) _
  have HB2 := Aside0.mk (below_step HB1.out hbn)
  have HX2 := Aside0.mk (show W1.heap[bx]? = some (.cells #[.int .i64 xi, .int .i64 xs, .int .i64 xl, .int .i64 xn] 102 (0, 0)) from by rw [← hW1, ← hbx]; exact heap_alloc_new _ _)
  have HQ0 := Aside0.mk ((hbn.block _ (heap_lt HQ0'.out)).trans HQ0'.out)
  have HQ1 := Aside0.mk ((hbn.block _ (heap_lt HQ1'.out)).trans HQ1'.out)
  have HWB := Aside0.mk (And.intro hW1 hbx)
  have hbx2 : w.heap.size + 2 ≤ bx := by omega
  have hbB : W1.heap[bp]? = some (.cells #[.pointer (some ⟨sp, 0, none⟩), .map (some bm)] 61 (0, 0)) := (HB2.out.block _ hbl).trans HB.out
  have j1 : W1.cell? ⟨bp, 1, none⟩ = some (.map (some bm)) := by simp [World.cell?, hbB]
  have hbpl2 : bp < W1.heap.size := heap_lt hbB
  have hlk := SvM.look (HM.out.move (HB2.out.block _ hml)) (s := n) (by have := HWN.out; omega) (by have := HWN.out; omega)
  simp only [svV] at hlk
  rw [HT.out, HSL.out] at hlk
  obtain ⟨x0, x1, x2, x3, _, _, _, _⟩ := tx_cells HX2.out
  have hxl := heap_lt HX2.out
  clear hb hbn hs1 hbx hW1 hbB b0 hbpl
  go_upto_region 2 with fail
  rw [HWB.out.1, HWB.out.2]
  go_upto_region 5 with fail
  obtain ⟨bs, hbs⟩ : ∃ bs, W1.heap.size = bs := ⟨_, rfl⟩
  obtain ⟨W2, hW2⟩ : ∃ W2, W1.alloc (.cells #[.int .i64 t, .slice A k c] 148) = W2 := ⟨_, rfl⟩
  rw [hW2, hbs]
  have hbn : Below W1.heap.size W1 W2 := by rw [← hW2]; exact below_alloc (Below.refl _ _) _
  have HB3 := Aside0.mk (below_step HB2.out hbn)
  have HS3 := Aside0.mk (show W2.heap[bs]? = some (.cells #[.int .i64 t, .slice A k c] 148 (0, 0)) from by rw [← hW2, ← hbs]; exact heap_alloc_new _ _)
  have HX3 := Aside0.mk ((hbn.block _ (heap_lt HX2.out)).trans HX2.out)
  have HQ03 := Aside0.mk ((hbn.block _ (heap_lt HQ0.out)).trans HQ0.out)
  have HQ13 := Aside0.mk ((hbn.block _ (heap_lt HQ1.out)).trans HQ1.out)
  have hbs2 : bx < bs := by omega
  have hlk0 := hlk
  clear hlk hlk0 j1 hbpl2 x0 x1 x2 x3 hxl hbn hbs hW2
  obtain ⟨x0, x1, x2, x3, _, _, _, _⟩ := tx_cells HX3.out
  have hxl := heap_lt HX3.out
  obtain ⟨e0, e1, s0, s1⟩ := sv_cells HS3.out
  have hsl := heap_lt HS3.out
  obtain ⟨rs, hrs⟩ : ∃ v, slOf B sl n xi = v := ⟨_, rfl⟩
  have HRS := Aside0.mk hrs
  have HRF := Aside0.mk (show ∃ A' k' c', rs = .slice A' k' c' from by
    rw [← hrs]; unfold slOf; split
    · exact ⟨_, _, _, HSL.out⟩
    · exact ⟨_, _, _, rfl⟩)
  obtain ⟨A', k', c', rfl⟩ := HRF.out
  clear HRF
  unfold slOf at hrs
  rw [HT.out] at hrs
  by_cases hq : t = xi
  · rw [if_pos hq, HSL.out] at hrs
    have HRE := Aside0.mk hrs
    have hq2 := hq.symm
    clear hrs hq
    subst hq2
    go_upto_region 7 with fail
    have HSF := Aside0.mk (show W2.heap[bs]? = some (.cells #[.int .i64 xi, .slice A' k' c'] 148 (0, 0)) from by rw [← HRE.out]; exact HS3.out)
    clear x0 x1 x2 x3 e0 e1 s0 s1 hxl hsl
    have HXF := HX3
    have HBF := HB3
    have HQ0F := HQ03
    have HQ1F := HQ13
    generalize W2 = W3 at HSF HXF HBF HQ0F HQ1F ⊢
    obtain ⟨x0, x1, x2, x3, _, _, _, _⟩ := tx_cells HXF.out
    obtain ⟨_, _, s0, s1⟩ := sv_cells HSF.out
    obtain ⟨_, _, _, _, r0, r1, r2, r3⟩ := tx_cells HQ0F.out
    obtain ⟨f0, f1, _, _⟩ := sv_cells HQ1F.out
    have hlt0 := heap_lt HQ0F.out
    have hlt1 := heap_lt HQ1F.out
    have n1 : bx ≠ w.heap.size := by omega
    have n2 : bx ≠ w.heap.size + 1 := by omega
    have n3 : bs ≠ w.heap.size := by omega
    have n4 : bs ≠ w.heap.size + 1 := by omega
    go_cut [6] (fun v6 wx => v6 = .nilIface ∧ Aside0 (wx.heap[w.heap.size]? = some (.cells #[.int .i64 xi, .int .i64 xs, .int .i64 xl, .int .i64 xn] 102 (0, 0))) ∧ Aside0 (wx.heap[w.heap.size + 1]? = some (.cells #[.int .i64 xi, .slice A' k' c'] 148 (0, 0))) ∧ Aside0 (Below w.heap.size w wx))
    case first =>
      go_region_law (fail)
      all_goals
        rw [show (((((W3.setCell ⟨w.heap.size, 0, none⟩ (.int .i64 xi)).setCell ⟨w.heap.size, 1, none⟩ (.int .i64 xs)).setCell ⟨w.heap.size, 2, none⟩ (.int .i64 xl)).setCell ⟨w.heap.size, 3, none⟩ (.int .i64 xn)).setCell ⟨w.heap.size + 1, 0, none⟩ (.int .i64 xi)).setCell ⟨w.heap.size + 1, 1, none⟩ (.slice A' k' c') = svPut (txPut W3 w.heap.size ⟨xi, xs, xl, xn⟩) (w.heap.size + 1) xi (.slice A' k' c') from rfl]
        have p1 := txPut_heap HQ0F.out ⟨xi, xs, xl, xn⟩
        have p2 : (txPut W3 w.heap.size ⟨xi, xs, xl, xn⟩).heap[w.heap.size + 1]? = some zsv := (txPut_other (by omega) ⟨xi, xs, xl, xn⟩).trans HQ1F.out
        have p3 := svPut_heap p2 xi (.slice A' k' c')
        have p4 := (svPut_other (w := txPut W3 w.heap.size ⟨xi, xs, xl, xn⟩) (b := w.heap.size + 1) (k := w.heap.size) (by omega) xi (.slice A' k' c')).trans p1
        have HBG := Aside0.mk (svPut_below (txPut_below HBF.out (Nat.le_refl _) ⟨xi, xs, xl, xn⟩) (Nat.le_succ _) xi (.slice A' k' c'))
        have P3 := Aside0.mk p3
        have P4 := Aside0.mk p4
        clear p1 p2 p3 p4
        generalize svPut (txPut W3 w.heap.size ⟨xi, xs, xl, xn⟩) (w.heap.size + 1) xi (.slice A' k' c') = wd at P3 P4 HBG ⊢
        go_wp2_with fail
        go_meet
        exact ⟨rfl, P4, P3, ⟨by repeat (first | exact HBG.out | apply below_drew1)⟩⟩
    case rest =>
      obtain ⟨rfl, P4, P3, HBG⟩ := hcut
      generalize wc = V at P3 P4 HBG ⊢
      clear x0 x1 x2 x3 s0 s1 r0 r1 r2 r3 f0 f1 hlt0 hlt1
      obtain ⟨x0, x1, x2, x3, _, _, _, _⟩ := tx_cells P4.out
      obtain ⟨_, _, g0, g1⟩ := sv_cells P3.out
      go_wp2_with fail
      refine bodyPost_ret (v := .tuple #[.agg #[.int .i64 xi, .int .i64 xs, .int .i64 xl, .int .i64 xn], .agg #[.int .i64 xi, .slice A' k' c'], .nilIface]) ?_ ?_ ?_
      case refine_2 => rfl
      case refine_3 => exact ⟨by rw [HRS.out]; rfl, HBG.out⟩
      simp [results, Tryz.results85, go_sem, x0, x1, x2, x3, g0, g1]
  · rw [if_neg hq] at hrs
    have HRE := Aside0.mk hrs
    clear hrs
    go_upto_region 7 with fail
    rw [show (W2.setCell ⟨bs, 0, none⟩ (.int .i64 xi)).setCell ⟨bs, 1, none⟩ (.slice none 0 0) = svPut W2 bs xi (.slice none 0 0) from rfl]
    have HSF := Aside0.mk (show (svPut W2 bs xi (.slice none 0 0)).heap[bs]? = some (.cells #[.int .i64 xi, .slice A' k' c'] 148 (0, 0)) from by rw [← HRE.out]; exact svPut_heap HS3.out xi (.slice none 0 0))
    have HXF := Aside0.mk ((svPut_other (w := W2) (b := bs) (k := bx) (by omega) xi (.slice none 0 0)).trans HX3.out)
    have HBF := Aside0.mk (svPut_below HB3.out (b := bs) (by omega) xi (.slice none 0 0))
    have HQ0F := Aside0.mk ((svPut_other (w := W2) (b := bs) (k := w.heap.size) (by omega) xi (.slice none 0 0)).trans HQ03.out)
    have HQ1F := Aside0.mk ((svPut_other (w := W2) (b := bs) (k := w.heap.size + 1) (by omega) xi (.slice none 0 0)).trans HQ13.out)
    clear x0 x1 x2 x3 e0 e1 s0 s1 hxl hsl
    generalize svPut W2 bs xi (.slice none 0 0) = W3 at HSF HXF HBF HQ0F HQ1F ⊢
    obtain ⟨x0, x1, x2, x3, _, _, _, _⟩ := tx_cells HXF.out
    obtain ⟨_, _, s0, s1⟩ := sv_cells HSF.out
    obtain ⟨_, _, _, _, r0, r1, r2, r3⟩ := tx_cells HQ0F.out
    obtain ⟨f0, f1, _, _⟩ := sv_cells HQ1F.out
    have hlt0 := heap_lt HQ0F.out
    have hlt1 := heap_lt HQ1F.out
    have n1 : bx ≠ w.heap.size := by omega
    have n2 : bx ≠ w.heap.size + 1 := by omega
    have n3 : bs ≠ w.heap.size := by omega
    have n4 : bs ≠ w.heap.size + 1 := by omega
    go_cut [6] (fun v6 wx => v6 = .nilIface ∧ Aside0 (wx.heap[w.heap.size]? = some (.cells #[.int .i64 xi, .int .i64 xs, .int .i64 xl, .int .i64 xn] 102 (0, 0))) ∧ Aside0 (wx.heap[w.heap.size + 1]? = some (.cells #[.int .i64 xi, .slice A' k' c'] 148 (0, 0))) ∧ Aside0 (Below w.heap.size w wx))
    case first =>
      go_region_law (fail)
      all_goals
        rw [show (((((W3.setCell ⟨w.heap.size, 0, none⟩ (.int .i64 xi)).setCell ⟨w.heap.size, 1, none⟩ (.int .i64 xs)).setCell ⟨w.heap.size, 2, none⟩ (.int .i64 xl)).setCell ⟨w.heap.size, 3, none⟩ (.int .i64 xn)).setCell ⟨w.heap.size + 1, 0, none⟩ (.int .i64 xi)).setCell ⟨w.heap.size + 1, 1, none⟩ (.slice A' k' c') = svPut (txPut W3 w.heap.size ⟨xi, xs, xl, xn⟩) (w.heap.size + 1) xi (.slice A' k' c') from rfl]
        have p1 := txPut_heap HQ0F.out ⟨xi, xs, xl, xn⟩
        have p2 : (txPut W3 w.heap.size ⟨xi, xs, xl, xn⟩).heap[w.heap.size + 1]? = some zsv := (txPut_other (by omega) ⟨xi, xs, xl, xn⟩).trans HQ1F.out
        have p3 := svPut_heap p2 xi (.slice A' k' c')
        have p4 := (svPut_other (w := txPut W3 w.heap.size ⟨xi, xs, xl, xn⟩) (b := w.heap.size + 1) (k := w.heap.size) (by omega) xi (.slice A' k' c')).trans p1
        have HBG := Aside0.mk (svPut_below (txPut_below HBF.out (Nat.le_refl _) ⟨xi, xs, xl, xn⟩) (Nat.le_succ _) xi (.slice A' k' c'))
        have P3 := Aside0.mk p3
        have P4 := Aside0.mk p4
        clear p1 p2 p3 p4
        generalize svPut (txPut W3 w.heap.size ⟨xi, xs, xl, xn⟩) (w.heap.size + 1) xi (.slice A' k' c') = wd at P3 P4 HBG ⊢
        go_wp2_with fail
        go_meet
        exact ⟨rfl, P4, P3, ⟨by repeat (first | exact HBG.out | apply below_drew1)⟩⟩
    case rest =>
      obtain ⟨rfl, P4, P3, HBG⟩ := hcut
      generalize wc = V at P3 P4 HBG ⊢
      clear x0 x1 x2 x3 s0 s1 r0 r1 r2 r3 f0 f1 hlt0 hlt1
      obtain ⟨x0, x1, x2, x3, _, _, _, _⟩ := tx_cells P4.out
      obtain ⟨_, _, g0, g1⟩ := sv_cells P3.out
      go_wp2_with fail
      refine bodyPost_ret (v := .tuple #[.agg #[.int .i64 xi, .int .i64 xs, .int .i64 xl, .int .i64 xn], .agg #[.int .i64 xi, .slice A' k' c'], .nilIface]) ?_ ?_ ?_
      case refine_2 => rfl
      case refine_3 => exact ⟨by rw [HRS.out]; rfl, HBG.out⟩
      simp [results, Tryz.results85, go_sem, x0, x1, x2, x3, g0, g1]
end Go.Proofs.YtaplpeoikebedaaGreatDoor.BackW
