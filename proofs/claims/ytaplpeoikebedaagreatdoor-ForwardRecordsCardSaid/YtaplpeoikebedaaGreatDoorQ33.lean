/- Joined texts: FwdS, FwdU. No condition but what each says. -/
import Derived.Test.YtaplpeoikebedaaGreatDoorQ30
import Derived.Test.YtaplpeoikebedaaGreatDoorQ29
import Derived.Test.YtaplpeoikebedaaGreatDoorQ32
import Derived.Test.YtaplpeoikebedaaGreatDoorQ19
import Derived.Deep.RegionHeld3
import Derived.Test.YtaplpeoikebedaaGreatDoorQ31
namespace Go.Proofs.YtaplpeoikebedaaGreatDoor.FwdS
open Go.RowKit Go.Maps Go.Proofs.YtaplpeoikebedaaGreatDoorW.PrintWords Go.Proofs.YtaplpeoikebedaaGreatDoorW.PrintLast Go.Proofs.YtaplpeoikebedaaGreatDoorW.PrintMore
open Go.Proofs.YtaplpeoikebedaaGreatDoor.See Go.Proofs.YtaplpeoikebedaaGreatDoor.Mem Go.Proofs.YtaplpeoikebedaaGreatDoor.Page Go.Proofs.YtaplpeoikebedaaGreatDoor.Disk Go.Proofs.YtaplpeoikebedaaGreatDoor.DiskN Go.Proofs.YtaplpeoikebedaaGreatDoor.DiskW Go.Proofs.YtaplpeoikebedaaGreatDoor.RecD Go.Proofs.YtaplpeoikebedaaGreatDoor.Rec Go.Proofs.YtaplpeoikebedaaGreatDoor.Dirty Go.Proofs.YtaplpeoikebedaaGreatDoor.Wal Go.Proofs.YtaplpeoikebedaaGreatDoor.WalF Go.Proofs.YtaplpeoikebedaaGreatDoor.SysD Go.Proofs.YtaplpeoikebedaaGreatDoor.SysM Go.Proofs.YtaplpeoikebedaaGreatDoor.PoolG Go.Proofs.YtaplpeoikebedaaGreatDoor.PoolS Go.Proofs.YtaplpeoikebedaaGreatDoor.Pager Go.Proofs.YtaplpeoikebedaaGreatDoor.StoreD Go.Proofs.YtaplpeoikebedaaGreatDoor.PageM Go.Proofs.YtaplpeoikebedaaGreatDoor.StoreF Go.Proofs.YtaplpeoikebedaaGreatDoor.FlushG Go.Proofs.YtaplpeoikebedaaGreatDoor.StoreG Go.Proofs.YtaplpeoikebedaaGreatDoor.StoreI Go.Proofs.YtaplpeoikebedaaGreatDoor.StoreJ Go.Proofs.YtaplpeoikebedaaGreatDoor.ChangeT Go.Proofs.YtaplpeoikebedaaGreatDoor.TransT Go.Proofs.YtaplpeoikebedaaGreatDoor.LockT Go.Proofs.YtaplpeoikebedaaGreatDoor.LockU Go.Proofs.YtaplpeoikebedaaGreatDoor.SpaceT Go.Proofs.YtaplpeoikebedaaGreatDoor.WaitT Go.Proofs.YtaplpeoikebedaaGreatDoor.FwdM Go.Proofs.YtaplpeoikebedaaGreatDoor.FwdP Go.Proofs.YtaplpeoikebedaaGreatDoor.FwdC Go.Proofs.YtaplpeoikebedaaGreatDoor.FwdT Go.Proofs.YtaplpeoikebedaaGreatDoor.FwdB
attribute [local go_sem] max2_imax min2_imin max_two min_two
set_option linter.unusedVariables false
set_option linter.unusedSimpArgs false
/-- What a change is asked with. -/
def rec0 (key : Int) (had : Bool) (old : Int) (has : Bool) (new : Int) : RecV := ⟨0, 0, 0, 0, 0, key, had, has, old, new⟩
set_option maxHeartbeats 8000000 in
set_option maxRecDepth 100000 in
theorem set_low (a : Nat → Addr) (M : Nat → Prop) (sp lp pp dp qp mp : Nat) (blocks frames : Int) (F : FS) (x : Tx) (l0 : Int) (v : Value) (r : RecV) (w : World) (h : FwM M w sp lp pp dp qp mp blocks frames F) (hs : SentsAll w a) (hfr : F.free < 2) (hv : ∃ A n c, v = .slice A n c) :
    Calls Tryz.prog 72 #[.pointer (some ⟨sp, 0, none⟩), txV x, .agg #[.int .i64 l0, v], recV r] w fun e w' => e = .returned (errv a (some 8)) ∧ FwPost M sp lp pp dp qp mp blocks frames F w w' := by
  have HF := Aside0.mk (fun (W : World) (hb : Below w.heap.size w W) => h.below hb)
  have HR := Aside0.mk (FwPost.refl h)
  have HSE := Aside0.mk (fun (W : World) (hb : Below w.heap.size w W) => (hs.below hb).cell 8 (by decide))
  have hspl : sp < w.heap.size := by obtain ⟨kv, tv, b1, _⟩ := h.box; exact heap_lt b1
  obtain ⟨_, _, _, _, _, _, k10, _⟩ := h.cells
  have hgl : 2 < w.heap.size := World.block_lt_of_cell? _ _ (hs.cell 8 (by decide))
  have hg8 : w.cell? ⟨2, 0, none⟩ = some (.iface 333 (.pointer (some (a 8)))) := hs.cell 8 (by decide)
  have hd : decide (F.free < 2) = true := decide_eq_true hfr
  obtain ⟨A, n, c, rfl⟩ := hv
  obtain ⟨xi, xs, xl, xn⟩ := x
  obtain ⟨r0, r1, r2, r3, r4, r5, r6, r7, r8, r9⟩ := r
  simp only [txV, recV, errv]
  clear h hs hfr
  go_enter Tryz.func72, Tryz.ntmps72
  go_upto_region 1 with fail
  obtain ⟨W, hW⟩ : ∃ W, ((w.alloc (.cells #[.int .i64 xi, .int .i64 xs, .int .i64 xl, .int .i64 xn] 102)).alloc (.cells #[.int .i64 l0, .slice A n c] 74)).alloc (.cells #[.int .i64 r0, .int .i64 r1, .int .i64 r2, .int .i64 r3, .int .i64 r4, .int .i64 r5, .bool r6, .bool r7, .int .i64 r8, .int .i64 r9] 46) = W := ⟨_, rfl⟩
  have HBW := Aside0.mk (show Below w.heap.size w W from by rw [← hW]; repeat (first | exact Below.refl _ _ | apply below_drew1 | apply below_alloc))
  rw [hW]
  have j10 := pw_cell_below HBW.out k10
  have j8 := pw_cell_below HBW.out hg8
  clear hW k10 hg8
  go_wp2_with fail
  refine (free_space qp F.free F.kept _ (HF.out _ HBW.out).room).mono ?_
  rintro e w' ⟨rfl, rfl⟩
  go_wp2_with fail
  go_ret
  exact ⟨rfl, FwPost.step HR.out HBW.out⟩
/-- Four cells of a record, stored into its block. -/
def recPut (w : World) (b : Nat) (k t p v : Int) : World := (((w.setCell ⟨b, 0, none⟩ (.int .i64 k)).setCell ⟨b, 1, none⟩ (.int .i64 t)).setCell ⟨b, 2, none⟩ (.int .i64 p)).setCell ⟨b, 3, none⟩ (.int .i64 v)
theorem recPut_heap {w : World} {b : Nat} {r : RecV} (h : w.heap[b]? = some (.cells (recA r) 46 (0, 0))) (k t p v : Int) : (recPut w b k t p v).heap[b]? = some (.cells (recA { r with kind := k, txn := t, page := p, prev := v }) 46 (0, 0)) := by
  have h0 := heap_setCell_same w b 0 _ _ (.int .i64 k) h
  have h1 := heap_setCell_same _ b 1 _ _ (.int .i64 t) h0
  have h2 := heap_setCell_same _ b 2 _ _ (.int .i64 p) h1
  have h3 := heap_setCell_same _ b 3 _ _ (.int .i64 v) h2
  exact h3
theorem recPut_other {w : World} {b k : Nat} (h : k ≠ b) (x t p v : Int) : (recPut w b x t p v).heap[k]? = w.heap[k]? := by
  unfold recPut
  rw [Below.heap_setCell _ _ _ _ h, Below.heap_setCell _ _ _ _ h, Below.heap_setCell _ _ _ _ h, Below.heap_setCell _ _ _ _ h]
theorem recPut_below {B : Nat} {w w1 : World} {b : Nat} (h : Below B w w1) (hb : B ≤ b) (k t p v : Int) : Below B w (recPut w1 b k t p v) := (((h.setCell hb _).setCell hb _).setCell hb _).setCell hb _
/-- Behind the stores: a call's three blocks. -/
structure S0 (w : World) (x : Tx) (l0 : Int) (v : Value) (r : RecV) (w3 : World) : Prop where
  b : Below w.heap.size w w3
  x : w3.heap[w.heap.size]? = some (.cells #[.int .i64 x.id, .int .i64 x.state, .int .i64 x.last, .int .i64 x.next] 102 (0, 0))
  g : w3.heap[w.heap.size + 1]? = some (.cells #[.int .i64 l0, v] 74 (0, 0))
  r : w3.heap[w.heap.size + 1 + 1]? = some (.cells (recA r) 46 (0, 0))
theorem S0.below {w : World} {x : Tx} {l0 : Int} {v : Value} {r : RecV} {w3 w4 : World} (h : S0 w x l0 v r w3) (hb : Below w3.heap.size w3 w4) : S0 w x l0 v r w4 :=
  ⟨below_step h.b hb, (hb.block _ (heap_lt h.x)).trans h.x, (hb.block _ (heap_lt h.g)).trans h.g, (hb.block _ (heap_lt h.r)).trans h.r⟩
theorem sO {b k : Nat} (h : k ≠ b) (V : World) (i j : Nat) (v : Value) : (V.setCell ⟨b, i, none⟩ v).cell? ⟨k, j, none⟩ = V.cell? ⟨k, j, none⟩ := World.cell?_setCell_other _ _ _ _ (by intro e; injection e with e; exact h e.symm)
theorem sI {i j : Nat} (h : i ≠ j) (V : World) (b : Nat) (v : Value) : (V.setCell ⟨b, i, none⟩ v).cell? ⟨b, j, none⟩ = V.cell? ⟨b, j, none⟩ := World.cell?_setCell_other _ _ _ _ (by intro e; injection e with _ e; exact h e)
theorem sD (V : World) (x : Addr) : V.drew.cell? x = V.cell? x := rfl
set_option maxHeartbeats 8000000 in
set_option maxRecDepth 100000 in
theorem set_done (a : Nat → Addr) (M : Nat → Prop) (sp lp pp dp qp mp : Nat) (blocks frames : Int) (F : FS) (id l0 : Int) (v : Value) (es : List (Int × Int)) (key : Int) (hd : Bool) (ol : Int) (hb : Bool) (nw : Int) (w : World) (h : FwM M w sp lp pp dp qp mp blocks frames F) (hs : SentsAll w a) (hO : OutAll M a) (hid : thas F.ts id = true) (hr : Rising (kvT F.ts)) (hp : P2 w 169 v es) (hes : Rising es) (hk0 : 0 ≤ key) (hk1 : key < 1048576) (hP1 : 1 ≤ F.P) (hP2 : F.P ≤ 1000) (hfr : 2 ≤ F.free) (htop : F.free ≤ 1073741824 ∧ 0 ≤ F.kept ∧ F.kept ≤ 1073741824)
    (hrec : recOk (recSet (tget F.ts id) F.P key hd ol hb nw) = true) (hroom : 1 ≤ F.S.l.room) (hl0 : l0 < F.S.l.last + 1) (hput : hb = true → has es key = true ∨ es.length < 20) (ht : F.S.t.length ≤ 70000) (htid : (tget F.ts id).id = id)
    (hset : setS (addRec F.S (recSet (tget F.ts id) F.P key hd ol hb nw)) (placeOf key F.P) (F.S.l.last + 1) (redoE es (recSet (tget F.ts id) F.P key hd ol hb nw)) = ((setF F id key hd ol hb nw).S, none)) :
    Calls Tryz.prog 72 #[.pointer (some ⟨sp, 0, none⟩), txV (tget F.ts id), .agg #[.int .i64 l0, v], recV (rec0 key hd ol hb nw)] w fun e w' => e = .returned .nilIface ∧ FwPost M sp lp pp dp qp mp blocks frames (setF F id key hd ol hb nw) w w' := by
  have HF := Aside0.mk h
  have HS := Aside0.mk hs
  have HO := Aside0.mk hO
  have HID := Aside0.mk (And.intro hid hr)
  have HPP := Aside0.mk hp
  have HES := Aside0.mk hes
  have HTOP := Aside0.mk htop
  have HREC := Aside0.mk (append_room hrec hroom)
  have HL0 := Aside0.mk hl0
  have HPUT := Aside0.mk hput
  have HT := Aside0.mk ht
  have HSET := Aside0.mk hset
  have HFRE := Aside0.mk hfr
  have hspl : sp < w.heap.size := by obtain ⟨kv, tv, b1, _⟩ := h.box; exact heap_lt b1
  have hd2 : decide (F.free < 2) = false := decide_eq_false (by omega)
  obtain ⟨A, c, rfl, _⟩ := ow_slice hp.1
  obtain ⟨n, hn⟩ : ∃ n, es.length = n := ⟨_, rfl⟩
  have HN := Aside0.mk hn
  obtain ⟨pk, hpk⟩ : ∃ pk, placeOf key F.P = pk := ⟨_, rfl⟩
  have HPK := Aside0.mk hpk
  obtain ⟨x, hxx⟩ : ∃ x, tget F.ts id = x := ⟨_, rfl⟩
  have HXX := Aside0.mk hxx
  rw [hxx] at HREC HSET ⊢
  rw [hpk] at HSET
  have hri : x.id = id := by rw [← hxx]; exact htid
  obtain ⟨r', hr'⟩ : ∃ r', recSet x F.P key hd ol hb nw = r' := ⟨_, rfl⟩
  rw [hr'] at HREC HSET
  have HRR := Aside0.mk (show r' = ⟨2, id, pk, x.last, 0, key, hd, hb, ol, nw⟩ from by rw [← hr', ← hri]; unfold recSet; rw [hpk])
  obtain ⟨P, hP⟩ : ∃ P, F.P = P := ⟨_, rfl⟩
  rw [hP] at hP1 hP2
  have HPL := Aside0.mk (show placeOf key P = pk by rw [← hP]; exact hpk)
  have HC0 := Aside0.mk (show w.cell? ⟨sp, 0, none⟩ = some (.int .i64 P) by rw [← hP]; exact h.cells.1)
  have k10 := h.cells.2.2.2.2.2.2.1
  rw [hn]
  obtain ⟨xi, xs, xl, xn⟩ := x
  simp only at hri HRR
  subst hri
  simp only [txV, recV, rec0]
  clear h hs hO hid hr hp hes htop hrec hroom hl0 hput ht hset hfr hpk hxx hr' hP hn htid
  go_enter Tryz.func72, Tryz.ntmps72
  go_upto_region 1 with fail
  obtain ⟨W, hW⟩ : ∃ W, ((w.alloc (.cells #[.int .i64 xi, .int .i64 xs, .int .i64 xl, .int .i64 xn] 102)).alloc (.cells #[.int .i64 l0, .slice A n c] 74)).alloc (.cells #[.int .i64 0, .int .i64 0, .int .i64 0, .int .i64 0, .int .i64 0, .int .i64 key, .bool hd, .bool hb, .int .i64 ol, .int .i64 nw] 46) = W := ⟨_, rfl⟩
  have HBW := Aside0.mk (show Below w.heap.size w W from by rw [← hW]; repeat (first | exact Below.refl _ _ | apply below_drew1 | apply below_alloc))
  have HSZ := Aside0.mk (show W.heap.size = w.heap.size + 1 + 1 + 1 from by rw [← hW]; show (((w.heap.push _).push _).push _).size = _; simp only [Array.size_push])
  have HS0 := Aside0.mk (show S0 w ⟨xi, xs, xl, xn⟩ l0 (.slice A n c) (rec0 key hd ol hb nw) W from by
    refine ⟨HBW.out, ?_, ?_, ?_⟩
    · rw [← hW]
      exact (Below.heap_alloc _ _ _ (by show _ < ((w.heap.push _).push _).size; simp only [Array.size_push]; omega)).trans ((Below.heap_alloc _ _ _ (by show _ < (w.heap.push _).size; simp only [Array.size_push]; omega)).trans (heap_alloc_new w _))
    · rw [← hW]
      exact (Below.heap_alloc _ _ _ (by show _ < ((w.heap.push _).push _).size; simp only [Array.size_push]; omega)).trans (alloc_at _ _ (show (w.alloc _).heap.size = w.heap.size + 1 from by show (w.heap.push _).size = _; rw [Array.size_push]))
    · rw [← hW]
      exact alloc_at _ _ (show ((w.alloc _).alloc _).heap.size = w.heap.size + 1 + 1 from by show ((w.heap.push _).push _).size = _; simp only [Array.size_push]))
  rw [hW]
  have j10 := pw_cell_below HBW.out k10
  clear hW k10
  go_wp2_with fail
  refine (free_space qp F.free F.kept _ (HF.out.below HBW.out).room).mono ?_
  rintro e w' ⟨rfl, rfl⟩
  have j0 := pw_cell_below HBW.out HC0.out
  obtain ⟨x0, x1, x2, x3, _, _, _, _⟩ := tx_cells HS0.out.x
  obtain ⟨y0, y1, y2, y3, y4, y5, y6, y7, y8, y9⟩ := rec_cells HS0.out.r
  obtain ⟨br, hbr⟩ : ∃ br, w.heap.size + 1 + 1 = br := ⟨_, rfl⟩
  have HBR := Aside0.mk hbr
  rw [hbr] at y0 y1 y2 y3 y4 y5 y6 y7 y8 y9 ⊢
  have HS0R : W.heap[br]? = some (.cells (recA (rec0 key hd ol hb nw)) 46 (0, 0)) := by rw [← hbr]; exact HS0.out.r
  have f0 : W.frozen? ⟨br, 0, none⟩ = false := by simp [World.frozen?, HS0R]
  have f1 : W.frozen? ⟨br, 1, none⟩ = false := by simp [World.frozen?, HS0R]
  have f2 : W.frozen? ⟨br, 2, none⟩ = false := by simp [World.frozen?, HS0R]
  have f3 : W.frozen? ⟨br, 3, none⟩ = false := by simp [World.frozen?, HS0R]
  have hspW : sp < W.heap.size := by have := HSZ.out; omega
  have hne : sp ≠ br := by omega
  simp only [rec0] at y0 y1 y2 y3 y4 y5 y6 y7 y8 y9
  have hnx : w.heap.size ≠ br := by omega
  have HS0R' := Aside0.mk HS0R
  clear HS0R hbr
  clear y4 y6 y7 y8 y9 x1 x3
  go_upto_region 3 with fail
  clear hd2 j10
  go_cut [] (fun wx => Aside0 (S0 w ⟨xi, xs, xl, xn⟩ l0 (.slice A n c) r' wx) ∧ Aside0 (wx.heap.size = w.heap.size + 1 + 1 + 1))
  case first =>
    go_region_held3 (fun w' => w'.cell? ⟨sp, 0, none⟩ = some (.int .i64 P) ∧ w'.cell? ⟨w.heap.size, 0, none⟩ = some (.int .i64 xi) ∧ w'.cell? ⟨w.heap.size, 2, none⟩ = some (.int .i64 xl) ∧ w'.cell? ⟨br, 5, none⟩ = some (.int .i64 key))
      (first | (simp only [sD, sO hne, sO hnx, sI (show (0 : Nat) ≠ 5 by decide), sI (show (1 : Nat) ≠ 5 by decide), sI (show (2 : Nat) ≠ 5 by decide), sI (show (3 : Nat) ≠ 5 by decide)]; exact ⟨j0, x0, x2, y5⟩) | exact ⟨j0, x0, x2, y5⟩)
      (first
        | (go_at_call 125; refine (place_at key P pk hk0 hk1 hP1 hP2 HPL.out _).mono ?_; rintro e wq ⟨rfl, rfl⟩))
    rw [show (((W.setCell ⟨br, 0, none⟩ (.int .i64 2)).setCell ⟨br, 1, none⟩ (.int .i64 xi)).setCell ⟨br, 2, none⟩ (.int .i64 pk)).setCell ⟨br, 3, none⟩ (.int .i64 xl) = recPut W br 2 xi pk xl from rfl]
    have HS3 := Aside0.mk (show S0 w ⟨xi, xs, xl, xn⟩ l0 (.slice A n c) r' (recPut W br 2 xi pk xl) from by
      have hbr := HBR.out
      refine ⟨recPut_below HBW.out (by omega) _ _ _ _, (recPut_other (by omega) _ _ _ _).trans HS0.out.x, (recPut_other (by omega) _ _ _ _).trans HS0.out.g, ?_⟩
      rw [hbr, HRR.out]
      exact recPut_heap HS0R'.out _ _ _ _)
    have HZ3 := Aside0.mk (show (recPut W br 2 xi pk xl).heap.size = w.heap.size + 1 + 1 + 1 from by unfold recPut; simp [World.setCell]; exact HSZ.out)
    clear f0 f1 f2 f3 y0 y1 y2 y3 y5 x0 x2 j0
    generalize recPut W br 2 xi pk xl = wd at HS3 HZ3 ⊢
    go_wp2_with fail
    go_meet
    exact ⟨⟨HS3.out.below (by repeat (first | exact Below.refl _ _ | apply below_drew1))⟩, HZ3⟩
  case rest =>
    obtain ⟨HS3, HZ3⟩ := hcut
    clear f0 f1 f2 f3 y0 y1 y2 y3 y5 x0 x2 j0 hspW hne hnx
    generalize wc = V0 at HS3 HZ3 ⊢
    have HLB0 := Aside0.mk (LB.start HF.out HS3.out.b)
    have hw3 : w.heap.size + 3 = V0.heap.size := by rw [HZ3.out]
    have HXB := Aside0.mk HS3.out.x
    have HGB := Aside0.mk HS3.out.g
    have HRB := Aside0.mk (show V0.heap[br]? = some (.cells (recA r') 46 (0, 0)) by rw [← HBR.out]; exact HS3.out.r)
    have hbrw : w.heap.size ≤ br := by have := HBR.out; omega
    have HAP := Aside0.mk (show ∀ (V : World), Below V0.heap.size V0 V → Calls Tryz.prog 63 #[.pointer (some ⟨lp, 0, none⟩), recV r'] V (fun e w' => e = .returned (.tuple #[.int .i64 (F.S.l.last + 1), .nilIface]) ∧ ∃ R, LB M sp lp pp dp qp mp blocks frames { F with S := addRec F.S r' } w V0 R w') from fun V hbl => by
      have hl := HLB0.out.below hbl
      obtain ⟨hs1, hs2⟩ := hl.sents HS.out HO.out
      obtain ⟨lv, hlg⟩ := hl.f.sys.log
      have := append_log a _ lp dp lv F.S.l r' V (hs1.k _ (by decide)) hlg
      exact this.mono fun e w' hh => by
        obtain ⟨rfl, v3, hl3, hf3⟩ := hh
        rw [HREC.out.2.2] at hl3
        rw [HREC.out.1, HREC.out.2.1, show errv a none = .nilIface from rfl]
        exact ⟨rfl, _, hl.step (FwM.lg hl.f ⟨v3, hl3⟩ hf3)⟩)
    have j4 := HLB0.out.f.cells.2.2.1
    obtain ⟨y0, y1, y2, y3, y4, y5, y6, y7, y8, y9⟩ := rec_cells HRB.out
    rw [HRR.out] at y0 y1 y2 y3 y4 y5 y6 y7 y8 y9 HAP
    simp only [recV] at y0 y1 y2 y3 y4 y5 y6 y7 y8 y9 HAP
    go_upto_region 4 with fail
    go_cut [9, 10] (fun v9 v10 wx => v9 = .int .i64 (F.S.l.last + 1) ∧ v10 = .nilIface ∧ ∃ R, Aside0 (LB M sp lp pp dp qp mp blocks frames { F with S := addRec F.S r' } w V0 R wx))
    case first =>
      go_region_law (first
        | (go_simp; go_at_call 63; refine (HAP.out _ (by repeat (first | exact Below.refl _ _ | apply below_drew1))).mono ?_; rintro e w4 ⟨rfl, R4, hl4⟩; have HL4 := Aside0.mk hl4; clear hl4))
      all_goals
        go_wp2_with fail
        go_meet
        exact ⟨rfl, rfl, R4, by rw [HRR.out]; exact HL4⟩
    case rest =>
      obtain ⟨rfl, rfl, R4, HL4⟩ := hcut
      generalize wc = V1 at HL4 ⊢
      clear j4 y0 y1 y2 y3 y4 y5 y6 y7 y8 y9
      have j10 := HL4.out.f.cells.2.2.2.2.2.2.1
      have hlsp : sp < V1.heap.size := by have := HL4.out.k.size; omega
      go_wp2_with fail
      refine (ask_space _ qp F.free F.kept 1 1 _ HL4.out.f.room HL4.out.f.low.2.1 (by omega) (by omega) (by have := HFRE.out; omega) HTOP.out.1 HTOP.out.2.1 HTOP.out.2.2).mono ?_
      rintro e V2 ⟨rfl, hs5, hf5⟩
      have HL5 := Aside0.mk (HL4.out.step (FwM.spc HL4.out.f hs5 hf5))
      clear hs5 hf5 j10 hlsp
      have HXB5 := Aside0.mk (HL5.out.at HXB.out (Nat.le_refl _))
      obtain ⟨cs, tv, htx, hput2⟩ := FwM.txs HL5.out.f HID.out.2
      have HTX := Aside0.mk htx
      have HPT := Aside0.mk hput2
      clear htx hput2
      obtain ⟨x0, x1, x2, x3, _, _, _, _⟩ := tx_cells HXB5.out
      have hl5 := heap_lt HXB5.out
      have HNT := Aside0.mk (show ∀ (V : World), Below V2.heap.size V2 V → Calls Tryz.prog 66 #[.pointer (some ⟨sp, 8, none⟩), .int .i64 xi, .int .i64 (F.S.l.last + 1), .int .i64 (F.S.l.last + 1)] V (fun e w' => e = .returned (.bool true) ∧ ∃ R, LB M sp lp pp dp qp mp blocks frames { F with S := addRec F.S r', free := F.free - (1 + 1), kept := F.kept + 1, ts := tnote F.ts xi (F.S.l.last + 1) (F.S.l.last + 1) } w V0 R w') from fun V hbl => by
        have := tnote_calls _ sp 8 118 cs tv F.ts F.most xi (F.S.l.last + 1) (F.S.l.last + 1) V (HTX.out.below hbl) HID.out.1
        exact this.mono fun e w' hh => by
          obtain ⟨rfl, hpost⟩ := hh
          exact ⟨rfl, _, HL5.out.step (HPT.out _ _ _ (Int.le_refl _) (hpost.back hbl))⟩)
      go_upto_region 8 with fail
      go_cut [] (fun wx => ∃ R, Aside0 (LB M sp lp pp dp qp mp blocks frames { F with S := addRec F.S r', free := F.free - (1 + 1), kept := F.kept + 1, ts := tnote F.ts xi (F.S.l.last + 1) (F.S.l.last + 1) } w V0 R wx))
      case first =>
        go_region_law (first
          | (go_simp; go_at_call 66; refine (HNT.out _ (by repeat (first | exact Below.refl _ _ | apply below_drew1))).mono ?_; rintro e w6 ⟨rfl, R6, hl6⟩; have HL6 := Aside0.mk hl6; clear hl6))
        all_goals
          go_wp2_with fail
          go_meet
          exact ⟨R6, HL6⟩
      case rest =>
        obtain ⟨R6, HL6⟩ := hcut
        generalize wc = V3 at HL6 ⊢
        clear x0 x1 x2 x3 hl5
        have HG6 := Aside0.mk (HL6.out.at HGB.out (by omega))
        have HR6 := Aside0.mk (HL6.out.at HRB.out hbrw)
        have HP6 := Aside0.mk (p2_kp HPP.out HL6.out.k)
        obtain ⟨_, _, g0, g1⟩ := pg_cells HG6.out
        obtain ⟨y0, y1, y2, y3, y4, y5, y6, y7, y8, y9⟩ := rec_cells HR6.out
        rw [HRR.out] at y0 y1 y2 y3 y4 y5 y6 y7 y8 y9
        simp only at y0 y1 y2 y3 y4 y5 y6 y7 y8 y9
        have HRD := Aside0.mk (by have h := HP6.out; have := redo_calls l0 (F.S.l.last + 1) (.slice A n c) es r' V3 (by rw [HN.out] at h; exact h) HES.out (by rw [HRR.out]; exact .inl rfl) HL0.out (by rw [HRR.out]; exact HPUT.out); rw [HRR.out] at this; exact this)
        simp only [recV] at HRD
        have hg6 := heap_lt HG6.out
        have hr6 := heap_lt HR6.out
        go_wp2_with fail
        refine HRD.out.mono ?_
        rintro e V4 ⟨v2, rfl, hp4, hb4⟩
        rw [← HRR.out] at hp4
        obtain ⟨A2, c2, rfl, _⟩ := ow_slice hp4.1
        obtain ⟨n2, hn2⟩ : ∃ n2, (redoE es r').length = n2 := ⟨_, rfl⟩
        rw [hn2] at hp4 ⊢
        have HL7 := Aside0.mk (HL6.out.below (hb4.trans (below_alloc (Below.refl _ _) (.cells #[.int .i64 (F.S.l.last + 1), .slice A2 n2 c2] 74) |>.mono hb4.size)))
        have HP7 := Aside0.mk (hp4.below (below_alloc (Below.refl _ _) (.cells #[.int .i64 (F.S.l.last + 1), .slice A2 n2 c2] 74)))
        obtain ⟨bo, hbo⟩ : ∃ bo, V4.heap.size = bo := ⟨_, rfl⟩
        have HBO := Aside0.mk hbo
        obtain ⟨V5, hV5⟩ : ∃ V5, V4.alloc (.cells #[.int .i64 (F.S.l.last + 1), .slice A2 n2 c2] 74) = V5 := ⟨_, rfl⟩
        have HV5 := Aside0.mk hV5
        have HO7 := Aside0.mk (show V5.heap[bo]? = some (.cells #[.int .i64 (F.S.l.last + 1), .slice A2 n2 c2] 74 (0, 0)) by rw [← hV5, ← hbo]; exact heap_alloc_new _ _)
        rw [hV5] at HL7 HP7
        have HR7 := Aside0.mk (HL7.out.at HRB.out hbrw)
        clear hp4 hb4 hbo hV5 hn2 g0 g1 y0 y1 y2 y3 y4 y5 y6 y7 y8 y9 hg6 hr6
        have HST := Aside0.mk (show ∀ (V : World), Below V5.heap.size V5 V → Calls Tryz.prog 129 #[.pointer (some ⟨pp, 0, none⟩), .int .i64 pk, .agg #[.int .i64 (F.S.l.last + 1), .slice A2 n2 c2]] V (fun e w' => e = .returned .nilIface ∧ ∃ R, LB M sp lp pp dp qp mp blocks frames (setF F xi key hd ol hb nw) w V0 R w') from fun V hbl => by
          have hl := HL7.out.below hbl
          obtain ⟨hs1, hs2⟩ := hl.sents HS.out HO.out
          have := set_pool a _ pp lp dp (addRec F.S r') pk (F.S.l.last + 1) (.slice A2 n2 c2) (redoE es r') V (hs1.k _ (by decide)) hl.f.sys (HP7.out.below hbl) HT.out
          exact this.mono fun e w' hh => by
            obtain ⟨rfl, hx, hf⟩ := hh
            rw [HSET.out] at hx ⊢
            exact ⟨rfl, _, hl.step (FwM.sy hl.f hx hf)⟩)
        go_upto_region 10 with fail
        rw [HBO.out, show V4.alloc (.cells #[.int .i64 (F.S.l.last + 1), .slice A2 n2 c2] 74) = V5 from HV5.out]
        have j5 := HL7.out.f.cells.2.2.2.1
        obtain ⟨_, _, g0, g1⟩ := pg_cells HO7.out
        have y2 := (rec_cells HR7.out).2.2.1
        rw [HRR.out] at y2
        simp only at y2
        go_upto_region 12 with fail
        go_cut [8] (fun v8 wx => v8 = .nilIface ∧ ∃ R, Aside0 (LB M sp lp pp dp qp mp blocks frames (setF F xi key hd ol hb nw) w V0 R wx))
        case first =>
          go_region_law (first
            | (go_simp; go_at_call 129; refine (HST.out _ (by repeat (first | exact Below.refl _ _ | apply below_drew1))).mono ?_; rintro e w8 ⟨rfl, R8, hl8⟩; have HL8 := Aside0.mk hl8; clear hl8))
          all_goals
            go_wp2_with fail
            go_meet
            exact ⟨rfl, R8, HL8⟩
        case rest =>
          obtain ⟨rfl, R8, HL8⟩ := hcut
          go_wp2_with fail
          go_ret
          exact ⟨rfl, HL8.out.post⟩
end Go.Proofs.YtaplpeoikebedaaGreatDoor.FwdS
namespace Go.Proofs.YtaplpeoikebedaaGreatDoor.FwdU
open Go.RowKit Go.Maps Go.Proofs.YtaplpeoikebedaaGreatDoorW.PrintWords Go.Proofs.YtaplpeoikebedaaGreatDoorW.PrintLast Go.Proofs.YtaplpeoikebedaaGreatDoorW.PrintMore
open Go.Proofs.YtaplpeoikebedaaGreatDoor.See Go.Proofs.YtaplpeoikebedaaGreatDoor.Mem Go.Proofs.YtaplpeoikebedaaGreatDoor.Page Go.Proofs.YtaplpeoikebedaaGreatDoor.PageB Go.Proofs.YtaplpeoikebedaaGreatDoor.PageR Go.Proofs.YtaplpeoikebedaaGreatDoor.PageL Go.Proofs.YtaplpeoikebedaaGreatDoor.Disk Go.Proofs.YtaplpeoikebedaaGreatDoor.DiskN Go.Proofs.YtaplpeoikebedaaGreatDoor.DiskW Go.Proofs.YtaplpeoikebedaaGreatDoor.RecD Go.Proofs.YtaplpeoikebedaaGreatDoor.Rec Go.Proofs.YtaplpeoikebedaaGreatDoor.Dirty Go.Proofs.YtaplpeoikebedaaGreatDoor.Wal Go.Proofs.YtaplpeoikebedaaGreatDoor.WalF Go.Proofs.YtaplpeoikebedaaGreatDoor.SysD Go.Proofs.YtaplpeoikebedaaGreatDoor.SysM Go.Proofs.YtaplpeoikebedaaGreatDoor.PoolG Go.Proofs.YtaplpeoikebedaaGreatDoor.Pager Go.Proofs.YtaplpeoikebedaaGreatDoor.StoreD Go.Proofs.YtaplpeoikebedaaGreatDoor.PageM Go.Proofs.YtaplpeoikebedaaGreatDoor.StoreF Go.Proofs.YtaplpeoikebedaaGreatDoor.StoreG Go.Proofs.YtaplpeoikebedaaGreatDoor.StoreI Go.Proofs.YtaplpeoikebedaaGreatDoor.StoreJ Go.Proofs.YtaplpeoikebedaaGreatDoor.PageO Go.Proofs.YtaplpeoikebedaaGreatDoor.HeldT Go.Proofs.YtaplpeoikebedaaGreatDoor.TransT Go.Proofs.YtaplpeoikebedaaGreatDoor.LockT Go.Proofs.YtaplpeoikebedaaGreatDoor.LockU Go.Proofs.YtaplpeoikebedaaGreatDoor.SpaceT Go.Proofs.YtaplpeoikebedaaGreatDoor.WaitT Go.Proofs.YtaplpeoikebedaaGreatDoor.FwdM Go.Proofs.YtaplpeoikebedaaGreatDoor.FwdP Go.Proofs.YtaplpeoikebedaaGreatDoor.FwdC Go.Proofs.YtaplpeoikebedaaGreatDoor.FwdF Go.Proofs.YtaplpeoikebedaaGreatDoor.FwdT Go.Proofs.YtaplpeoikebedaaGreatDoor.FwdB Go.Proofs.YtaplpeoikebedaaGreatDoor.FwdS
attribute [local go_sem] max2_imax min2_imin max_two min_two
set_option linter.unusedVariables false
set_option linter.unusedSimpArgs false
/-- What Put comes to. -/
def PutPost (a : Nat → Addr) (M : Nat → Prop) (sp lp pp dp qp mp : Nat) (blocks frames : Int) (R : FS × Int × Bool × Option Nat) (w : World) (e : Ending) (w' : World) : Prop :=
  e = .returned (.tuple #[.int .i64 R.2.1, .bool R.2.2.1, errv a R.2.2.2]) ∧ FwPost M sp lp pp dp qp mp blocks frames R.1 w w'
set_option maxHeartbeats 8000000 in
set_option maxRecDepth 100000 in
theorem put_calls (a : Nat → Addr) (M : Nat → Prop) (sp lp pp dp qp mp : Nat) (blocks frames : Int) (F : FS) (n key v hint : Int) (N m : Nat) (ch : Int → List Int) (kp : Int → Int) (own : Int → Int) (w : World) (h : FwM M w sp lp pp dp qp mp blocks frames F) (hok : FOk N m ch kp F) (hk : KOk own F.ks) (he : own key = n) (hs : SentsAll w a) (hO : OutAll M a) (h0 : 0 ≤ n) (h1 : n < F.sess) (h2 : F.sess ≤ 1000)
    (hx : thas F.ts (F.of n) = true) (hk0 : 0 ≤ key) (hk1 : key < 1048576) (hl : F.ks.length ≤ 80000) (hm : m ≤ 30000) (hh0 : -9223372036854775808 ≤ hint) (hh1 : hint ≤ 9223372036854775807) (hv : is64 v) :
    Calls Tryz.prog 22 #[.pointer (some ⟨sp, 0, none⟩), .int .i64 n, .int .i64 key, .int .i64 v, .int .i64 hint] w (PutPost a M sp lp pp dp qp mp blocks frames (putR F n key v hint) w) := by
  have HT := Aside0.mk (takes_calls a M sp lp pp dp qp mp blocks frames F n key hint N m ch kp own w h hok hk he hs hO h0 h1 h2 hx hk0 hk1 hl hm hh0 hh1)
  have HS := Aside0.mk hs
  have HO := Aside0.mk hO
  have HOK := Aside0.mk hok
  have HK := Aside0.mk hk
  have HE := Aside0.mk he
  have HX := Aside0.mk hx
  have HV := Aside0.mk hv
  have HTK := Aside0.mk (takes_ok hok hk he ⟨hk0, hk1⟩ hint)
  obtain ⟨x, hxx⟩ : ∃ x, tget F.ts (F.of n) = x := ⟨_, rfl⟩
  obtain ⟨l0, hl0⟩ : ∃ l0, (cur F.S (placeOf key F.P)).1 = l0 := ⟨_, rfl⟩
  obtain ⟨es, hes⟩ : ∃ es, (cur F.S (placeOf key F.P)).2 = es := ⟨_, rfl⟩
  have HXX := Aside0.mk (And.intro hxx (And.intro hl0 hes))
  unfold TakesPost at HT
  rw [hxx, hl0, hes] at HT
  obtain ⟨xi, xs, xl, xn⟩ := x
  simp only [txV] at HT
  clear h hok hk he hs hO hl hm hx hxx h0 h1 h2 hh0 hh1 hv hl0 hes
  go_enter Tryz.func22, Tryz.ntmps22
  go_wp2_with fail
  refine HT.out.mono ?_
  rintro e w1 ⟨sl, rfl, hp, hpost⟩
  obtain ⟨A, c, rfl, _⟩ := ow_slice hp.1
  obtain ⟨el, hel⟩ : ∃ el, es.length = el := ⟨_, rfl⟩
  have HEL := Aside0.mk hel
  rw [hel] at hp ⊢
  have HP1 := Aside0.mk hp
  have HP := Aside0.mk hpost
  clear hp hpost hel
  obtain ⟨W, hW⟩ : ∃ W, (w1.alloc (.cells #[.int .i64 xi, .int .i64 xs, .int .i64 xl, .int .i64 xn] 102)).alloc (.cells #[.int .i64 l0, .slice A el c] 74) = W := ⟨_, rfl⟩
  have HBW := Aside0.mk (show Below w1.heap.size w1 W from by rw [← hW]; repeat (first | exact Below.refl _ _ | apply below_alloc))
  obtain ⟨bx, hbx⟩ : ∃ bx, w1.heap.size = bx := ⟨_, rfl⟩
  obtain ⟨bg, hbg⟩ : ∃ bg, w1.heap.size + 1 = bg := ⟨_, rfl⟩
  have HXB := Aside0.mk (show W.heap[bx]? = some (.cells #[.int .i64 xi, .int .i64 xs, .int .i64 xl, .int .i64 xn] 102 (0, 0)) from by
    rw [← hW, ← hbx]
    exact (Below.heap_alloc _ _ _ (by show _ < (w1.heap.push _).size; rw [Array.size_push]; omega)).trans (heap_alloc_new w1 _))
  have HGB := Aside0.mk (show W.heap[bg]? = some (.cells #[.int .i64 l0, .slice A el c] 74 (0, 0)) from by
    rw [← hW, ← hbg]
    exact ChangeT.alloc_at _ _ (show (w1.alloc _).heap.size = w1.heap.size + 1 from by show (w1.heap.push _).size = _; rw [Array.size_push]))
  have HWN := Aside0.mk (And.intro hW (And.intro hbx hbg))
  clear hW hbx hbg
  go_upto_region 2 with fail
  rw [HWN.out.1, HWN.out.2.2, HWN.out.2.1]
  obtain ⟨x0, x1, x2, x3, _, _, _, _⟩ := tx_cells HXB.out
  obtain ⟨_, _, g0, g1⟩ := FwdT.pg_cells HGB.out
  have hbxl := heap_lt HXB.out
  have hbgl := heap_lt HGB.out
  have HFW := Aside0.mk (HP.out.1.below HBW.out)
  have HPW := Aside0.mk (HP1.out.below HBW.out)
  have HRISE := Aside0.mk (show Rising es from by
    have hp2 := placeOf_in key HOK.out.g.pg.pages
    rw [← HXX.out.2.2]
    exact PageV.rise (HOK.out.g.pg.curV hp2.1 hp2.2))
  have HEG := Aside0.mk (eget_calls l0 (.slice A el c) es key W HPW.out HRISE.out)
  go_wp2_with fail
  refine HEG.out.mono ?_
  rintro e w2 ⟨rfl, hb2⟩
  have HB2 := Aside0.mk (below_step HBW.out hb2)
  have HF2 := Aside0.mk (HFW.out.below hb2)
  have HP2 := Aside0.mk (HPW.out.below hb2)
  have HS2 := Aside0.mk (SentsAll.kp (SentsAll.kp HS.out HP.out.2 HO.out) (Kp.of_below (M := fun _ => False) HB2.out) (fun _ _ => ⟨id, id⟩))
  have HO2 := Aside0.mk (OutAll.gr (w' := w1) HO.out HS.out)
  have HX2 := Aside0.mk ((hb2.block _ (heap_lt HXB.out)).trans HXB.out)
  have HG2 := Aside0.mk ((hb2.block _ (heap_lt HGB.out)).trans HGB.out)
  clear hb2 x0 x1 x2 x3 g0 g1 hbxl hbgl
  obtain ⟨had, hhad⟩ : ∃ b, has es key = b := ⟨_, rfl⟩
  obtain ⟨old, hold⟩ : ∃ o, fromOf es key = o := ⟨_, rfl⟩
  have HHAD := Aside0.mk (And.intro hhad hold)
  rw [hhad, hold]
  clear hhad hold
  have HSET := Aside0.mk (show (had = true ∨ fullB (takesF F n key 2 hint) key = false) → ∀ (V : World), Below w2.heap.size w2 V → Calls Tryz.prog 72 #[.pointer (some ⟨sp, 0, none⟩), .agg #[.int .i64 xi, .int .i64 xs, .int .i64 xl, .int .i64 xn], .agg #[.int .i64 l0, .slice A el c], .agg #[.int .i64 0, .int .i64 0, .int .i64 0, .int .i64 0, .int .i64 0, .int .i64 key, .bool had, .bool true, .int .i64 old, .int .i64 v]] V (fun e w' =>
      (F.free < 2 ∧ e = .returned (errv a (some 8)) ∧ FwPost (Gr M w w1) sp lp pp dp qp mp blocks frames (takesF F n key 2 hint) V w') ∨ (¬ F.free < 2 ∧ e = .returned .nilIface ∧ FwPost (Gr M w w1) sp lp pp dp qp mp blocks frames (setF (takesF F n key 2 hint) (F.of n) key had old true v) V w')) from fun hfl V hbl => by
    obtain ⟨t1, t2, t3, t4, t5, t6, t7, t8, t9⟩ := HTK.out
    obtain ⟨p1, p2⟩ := placeOf_in key HOK.out.g.pg.pages
    have hcur := t5 _ p1 p2
    have hP : (takesF F n key 2 hint).P = F.P := rfl
    have htg : tget (takesF F n key 2 hint).ts (F.of n) = ⟨xi, xs, xl, xn⟩ := HXX.out.1
    by_cases hfr : F.free < 2
    · have := set_low a (Gr M w w1) sp lp pp dp qp mp blocks frames (takesF F n key 2 hint) ⟨xi, xs, xl, xn⟩ l0 (.slice A el c) (rec0 key had old true v) V (HF2.out.below hbl) (HS2.out.below hbl) hfr ⟨A, el, c, rfl⟩
      exact this.mono fun e w' hh => .inl ⟨hfr, hh.1, hh.2⟩
    · obtain ⟨y, y1, y2, y3, y4⟩ := t8
      have hpo := put_ok (F := takesF F n key 2 hint) (id := F.of n) (key := key) (v := v) t2 HX.out t6 ⟨hk0, hk1⟩ HV.out ⟨y, y1, y2, y3, by rw [y4]; rfl⟩ (by show 2 ≤ F.free; omega) (by
        rw [hP, hcur, HXX.out.2.2, HHAD.out.1]
        exact hfl)
      rw [hP, hcur, HXX.out.2.2, HHAD.out.1, HHAD.out.2] at hpo
      obtain ⟨q1, q2, q3, _, _⟩ := hpo
      have hg := t2.g
      obtain ⟨r1, r2, r3⟩ := hg.room
      have hp32 := hg.p32
      have hpg := hg.pg.pages
      have hl0 : l0 < (takesF F n key 2 hint).S.l.last + 1 := by
        have := hg.lsn (placeOf key F.P) p1 p2
        rw [hcur, HXX.out.2.1] at this
        omega
      have hroom : 1 ≤ (takesF F n key 2 hint).S.l.room := by
        have : (takesF F n key 2 hint).free = F.free := rfl
        omega
      have htf := tab_few hg.pg
      have := set_done a (Gr M w w1) sp lp pp dp qp mp blocks frames (takesF F n key 2 hint) (F.of n) l0 (.slice A el c) es key had old true v V (HF2.out.below hbl) (HS2.out.below hbl) HO2.out HX.out t2.t.rise (HP2.out.below hbl) HRISE.out hk0 hk1 hpg (by omega) (by show 2 ≤ F.free; omega) ⟨(room_top hg).1, r2, (room_top hg).2⟩ q2 hroom hl0 (fun _ => by
        rcases hfl with h | h
        · exact .inl (by rw [HHAD.out.1]; exact h)
        · unfold fullB at h
          rw [hP, hcur, HXX.out.2.2] at h
          have : ¬ 20 ≤ es.length + (moreL (takesF F n key 2 hint) key).length := by simpa using h
          exact .inr (by omega)) (by have := hg.pg.frames; have := HF2.out.sys.frames.2; omega) (tget_mem HX.out).2 q1
      rw [htg] at this
      exact this.mono fun e w' hh => .inr ⟨hfr, hh.1, hh.2⟩)
  have HR9 := Aside0.mk (show had = false → fullB (takesF F n key 2 hint) key = true → putR F n key v hint = (takesF F n key 2 hint, 0, false, some 9) from fun h1 h2 => by
    unfold putR
    rw [HXX.out.2.2, HHAD.out.1, if_pos ⟨h1, h2⟩])
  have HNF := Aside0.mk (show (had = true ∨ fullB (takesF F n key 2 hint) key = false) → ¬ (had = false ∧ fullB (takesF F n key 2 hint) key = true) from fun h1 h2 => by
    rcases h1 with h1 | h1
    · rw [h1] at h2; exact absurd h2.1 (by decide)
    · rw [h1] at h2; exact absurd h2.2 (by decide))
  have HR8 := Aside0.mk (show (had = true ∨ fullB (takesF F n key 2 hint) key = false) → F.free < 2 → putR F n key v hint = (takesF F n key 2 hint, 0, false, some 8) from fun h1 h2 => by
    unfold putR
    rw [HXX.out.2.2, HHAD.out.1, if_neg (HNF.out h1), if_pos h2])
  have HR0 := Aside0.mk (show (had = true ∨ fullB (takesF F n key 2 hint) key = false) → ¬ F.free < 2 → putR F n key v hint = (setF (takesF F n key 2 hint) (F.of n) key had old true v, old, had, none) from fun h1 h2 => by
    unfold putR
    rw [HXX.out.2.2, HHAD.out.1, HHAD.out.2, if_neg (HNF.out h1), if_neg h2])
  obtain ⟨x0, x1, x2, x3, _, _, _, _⟩ := tx_cells HX2.out
  obtain ⟨_, _, g0, g1⟩ := FwdT.pg_cells HG2.out
  have hxl := heap_lt HX2.out
  have hgl := heap_lt HG2.out
  cases had with
  | true =>
    have HBK := HB2
    go_wp2_with fail
    refine (HSET.out (.inl (by simp)) _ (Below.refl _ _)).mono ?_
    rintro e w3 hset
    rcases hset with ⟨hlt, rfl, hp⟩ | ⟨hge, rfl, hp⟩
    · have HPF := Aside0.mk (FwPost.trans HP.out fun _ => hp.back HBK.out)
      have HRF := Aside0.mk (HR8.out (.inl (by simp)) hlt)
      clear hp hlt x0 x1 x2 x3 g0 g1 hxl hgl
      rw [show errv a (some 8) = .iface 333 (.pointer (some (a 8))) from rfl]
      go_wp2_with fail
      refine bodyPost_ret (v := .tuple #[.int .i64 0, .bool false, .iface 333 (.pointer (some (a 8)))]) (by simp [results, Tryz.results22, go_sem]) rfl ?_
      unfold PutPost
      rw [HRF.out]
      exact ⟨rfl, HPF.out⟩
    · have HPF := Aside0.mk (FwPost.trans HP.out fun _ => hp.back HBK.out)
      have HRF := Aside0.mk (HR0.out (.inl (by simp)) hge)
      clear hp hge x0 x1 x2 x3 g0 g1 hxl hgl
      go_wp2_with fail
      refine bodyPost_ret (v := .tuple #[.int .i64 old, .bool true, .nilIface]) (by simp [results, Tryz.results22, go_sem]) rfl ?_
      unfold PutPost
      rw [HRF.out]
      exact ⟨rfl, HPF.out⟩
  | false =>
    have HFL := Aside0.mk (show decide ((20 : Int) ≤ es.length + (((heldL (takesF F n key 2 hint).ks).filter (moreB es (takesF F n key 2 hint).P key)).length : Int)) = fullB (takesF F n key 2 hint) key from by
      obtain ⟨p1, p2⟩ := placeOf_in key HOK.out.g.pg.pages
      have hcur := HTK.out.2.2.2.2.1 _ p1 p2
      have hP : (takesF F n key 2 hint).P = F.P := rfl
      unfold fullB moreL
      rw [hP, hcur, HXX.out.2.2]
      refine decide_eq_decide.2 ?_
      show (20 : Int) ≤ es.length + (((heldL (takesF F n key 2 hint).ks).filter fun k => !(has es k) && (k != key && placeOf k F.P == placeOf key F.P)).length : Int) ↔ _
      omega)
    have HFC := Aside0.mk (by
      have hk3 := HTK.out.2.2.1
      have := full_calls (Gr M w w1) sp lp pp dp qp mp blocks frames (takesF F n key 2 hint) l0 (.slice A el c) es key w2 HF2.out HP2.out HRISE.out HOK.out.g.pg.pages (by have := HOK.out.g.p32; show F.P ≤ 1000; omega) hk0 hk1 (by rw [hk3.held]; exact hk3.once) (fun k hk => by
        rw [hk3.held] at hk
        obtain ⟨y, hy, rfl⟩ := List.mem_map.1 hk
        exact hk3.rng y hy) (by
        obtain ⟨p1, p2⟩ := placeOf_in key HOK.out.g.pg.pages
        have := (head_facts (headOk_of (HOK.out.g.pg.curV p1 p2).1)).2.2
        rw [HXX.out.2.2] at this
        omega)
      rw [HFL.out] at this
      exact this)
    obtain ⟨fl, hfl⟩ : ∃ b, fullB (takesF F n key 2 hint) key = b := ⟨_, rfl⟩
    rw [hfl] at HFC HSET HR9 HR8 HR0
    clear hfl
    have hg9 : w2.cell? ⟨4, 0, none⟩ = some (.iface 333 (.pointer (some (a 9)))) := HS2.out.cell 9 (by decide)
    clear hg9
    go_wp2_with fail
    refine HFC.out.mono ?_
    rintro e w3 ⟨rfl, hb3⟩
    have HBK := Aside0.mk (below_step HB2.out hb3)
    have HX3 := Aside0.mk ((hb3.block _ (heap_lt HX2.out)).trans HX2.out)
    have HG3 := Aside0.mk ((hb3.block _ (heap_lt HG2.out)).trans HG2.out)
    have HB3 := Aside0.mk hb3
    clear hb3 x0 x1 x2 x3 g0 g1 hxl hgl
    cases fl with
    | true =>
      have hg9 : w3.cell? ⟨4, 0, none⟩ = some (.iface 333 (.pointer (some (a 9)))) := (HS2.out.below HB3.out).cell 9 (by decide)
      have HRF := Aside0.mk (HR9.out (by simp) (by simp))
      go_wp2_with fail
      go_quiet (fail)
      have HPF := Aside0.mk (FwPost.step HP.out (pw_below_drewN HBK.out nq))
      go_wp2_with fail
      refine bodyPost_ret (v := .tuple #[.int .i64 0, .bool false, .iface 333 (.pointer (some (a 9)))]) (by simp [results, Tryz.results22, go_sem]) rfl ?_
      unfold PutPost
      rw [HRF.out]
      exact ⟨rfl, HPF.out⟩
    | false =>
      obtain ⟨x0, x1, x2, x3, _, _, _, _⟩ := tx_cells HX3.out
      obtain ⟨_, _, g0, g1⟩ := FwdT.pg_cells HG3.out
      have hxl := heap_lt HX3.out
      have hgl := heap_lt HG3.out
      go_wp2_with fail
      refine (HSET.out (.inr (by simp)) _ HB3.out).mono ?_
      rintro e w4 hset
      rcases hset with ⟨hlt, rfl, hp⟩ | ⟨hge, rfl, hp⟩
      · have HPF := Aside0.mk (FwPost.trans HP.out fun _ => hp.back HBK.out)
        have HRF := Aside0.mk (HR8.out (.inr (by simp)) hlt)
        clear hp hlt x0 x1 x2 x3 g0 g1 hxl hgl
        rw [show errv a (some 8) = .iface 333 (.pointer (some (a 8))) from rfl]
        go_wp2_with fail
        refine bodyPost_ret (v := .tuple #[.int .i64 0, .bool false, .iface 333 (.pointer (some (a 8)))]) (by simp [results, Tryz.results22, go_sem]) rfl ?_
        unfold PutPost
        rw [HRF.out]
        exact ⟨rfl, HPF.out⟩
      · have HPF := Aside0.mk (FwPost.trans HP.out fun _ => hp.back HBK.out)
        have HRF := Aside0.mk (HR0.out (.inr (by simp)) hge)
        clear hp hge x0 x1 x2 x3 g0 g1 hxl hgl
        go_wp2_with fail
        refine bodyPost_ret (v := .tuple #[.int .i64 old, .bool false, .nilIface]) (by simp [results, Tryz.results22, go_sem]) rfl ?_
        unfold PutPost
        rw [HRF.out]
        exact ⟨rfl, HPF.out⟩
end Go.Proofs.YtaplpeoikebedaaGreatDoor.FwdU
