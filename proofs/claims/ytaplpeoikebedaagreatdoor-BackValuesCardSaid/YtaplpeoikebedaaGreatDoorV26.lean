/- Joined texts: WalR, ChainT, FwdM, FwdP. No condition but what each says. -/
import Derived.Test.YtaplpeoikebedaaGreatDoorV11
import Derived.Test.YtaplpeoikebedaaGreatDoorV19
import Derived.Test.YtaplpeoikebedaaGreatDoorV18
import Derived.Test.YtaplpeoikebedaaGreatDoorV22
import Derived.Test.YtaplpeoikebedaaGreatDoorV25
import Derived.Maps.OwnOps
set_option maxHeartbeats 8000000
set_option maxRecDepth 100000
set_option linter.unusedVariables false
set_option linter.unusedSimpArgs false
namespace Go.Proofs.YtaplpeoikebedaaGreatDoor.WalR
open Go.RowKit YtaplpeoikebedaaGreatDoorW.PrintWords YtaplpeoikebedaaGreatDoorW.PrintLast YtaplpeoikebedaaGreatDoorW.PrintMore
open See Mem Clone Go.Proofs.YtaplpeoikebedaaGreatDoor.Cell Page RecD Rec BlockB Pool3 Wal StoreD
attribute [local go_sem] max2_imax min2_imin max_two min_two
def recPut (w : World) (b : Nat) (r : RecV) : World :=
  (((((((((w.setCell ⟨b, 0, none⟩ (.int .i64 r.kind)).setCell ⟨b, 1, none⟩ (.int .i64 r.txn)).setCell ⟨b, 2, none⟩ (.int .i64 r.page)).setCell ⟨b, 3, none⟩ (.int .i64 r.prev)).setCell ⟨b, 4, none⟩ (.int .i64 r.next)).setCell ⟨b, 5, none⟩ (.int .i64 r.key)).setCell ⟨b, 6, none⟩ (.bool r.had)).setCell ⟨b, 7, none⟩ (.bool r.has)).setCell ⟨b, 8, none⟩ (.int .i64 r.old)).setCell ⟨b, 9, none⟩ (.int .i64 r.new)
theorem recPut_heap {w : World} {b : Nat} {x0 x1 x2 x3 x4 x5 x6 x7 x8 x9 : Value} (h : w.heap[b]? = some (.cells #[x0, x1, x2, x3, x4, x5, x6, x7, x8, x9] 46 (0, 0))) (r : RecV) : (recPut w b r).heap[b]? = some (.cells (recA r) 46 (0, 0)) := by
  have h0 := heap_setCell_same _ _ 0 _ _ (.int .i64 r.kind) h
  have h1 := heap_setCell_same _ _ 1 _ _ (.int .i64 r.txn) h0
  have h2 := heap_setCell_same _ _ 2 _ _ (.int .i64 r.page) h1
  have h3 := heap_setCell_same _ _ 3 _ _ (.int .i64 r.prev) h2
  have h4 := heap_setCell_same _ _ 4 _ _ (.int .i64 r.next) h3
  have h5 := heap_setCell_same _ _ 5 _ _ (.int .i64 r.key) h4
  have h6 := heap_setCell_same _ _ 6 _ _ (.bool r.had) h5
  have h7 := heap_setCell_same _ _ 7 _ _ (.bool r.has) h6
  have h8 := heap_setCell_same _ _ 8 _ _ (.int .i64 r.old) h7
  have h9 := heap_setCell_same _ _ 9 _ _ (.int .i64 r.new) h8
  have e : (((((((((((#[x0, x1, x2, x3, x4, x5, x6, x7, x8, x9] : Array Value).setIfInBounds 0 (.int .i64 r.kind)).setIfInBounds 1 (.int .i64 r.txn)).setIfInBounds 2 (.int .i64 r.page)).setIfInBounds 3 (.int .i64 r.prev)).setIfInBounds 4 (.int .i64 r.next)).setIfInBounds 5 (.int .i64 r.key)).setIfInBounds 6 (.bool r.had)).setIfInBounds 7 (.bool r.has)).setIfInBounds 8 (.int .i64 r.old)).setIfInBounds 9 (.int .i64 r.new)) = recA r := by simp [recA]
  rw [e] at h9
  exact h9
theorem recPut_below {B : Nat} {w w1 : World} {b : Nat} (h : Below B w w1) (hb : B ≤ b) (r : RecV) : Below B w (recPut w1 b r) :=
  (((((((((h.setCell hb _).setCell hb _).setCell hb _).setCell hb _).setCell hb _).setCell hb _).setCell hb _).setCell hb _).setCell hb _).setCell hb _
theorem rec_cells {w : World} {b : Nat} {r : RecV} (h : w.heap[b]? = some (.cells (recA r) 46 (0, 0))) : w.cell? ⟨b, 0, none⟩ = some (.int .i64 r.kind) ∧ w.cell? ⟨b, 1, none⟩ = some (.int .i64 r.txn) ∧ w.cell? ⟨b, 2, none⟩ = some (.int .i64 r.page) ∧ w.cell? ⟨b, 3, none⟩ = some (.int .i64 r.prev) ∧ w.cell? ⟨b, 4, none⟩ = some (.int .i64 r.next) ∧ w.cell? ⟨b, 5, none⟩ = some (.int .i64 r.key) ∧ w.cell? ⟨b, 6, none⟩ = some (.bool r.had) ∧ w.cell? ⟨b, 7, none⟩ = some (.bool r.has) ∧ w.cell? ⟨b, 8, none⟩ = some (.int .i64 r.old) ∧ w.cell? ⟨b, 9, none⟩ = some (.int .i64 r.new) := by
  refine ⟨?_, ?_, ?_, ?_, ?_, ?_, ?_, ?_, ?_, ?_⟩ <;> simp [World.cell?, h, recA]
theorem LogM.at_ {M : Nat → Prop} {w : World} {lp dp : Nat} {A : Option Addr} {c : Nat} {L : Lg} (h : LogM M w lp dp (.slice A L.l.length c) L) {i : Nat} {r : RecV} (hi : L.l[i]? = some r) :
    ∃ g, A = some ⟨g, 0, none⟩ ∧ ∀ j u, (recL r)[j]? = some u → w.cell? ⟨g, i * 10 + j, none⟩ = some u := by
  have hlt := (List.getElem?_eq_some_iff.1 hi).1
  obtain ⟨g, c2, hv, _, _⟩ := h.row.form (by omega)
  injection hv with h1 h2 h3
  subst h1 h3
  refine ⟨g, rfl, fun j u hj => ?_⟩
  have hj10 : j < 10 := by
    have := (List.getElem?_eq_some_iff.1 hj).1
    simpa [recL] using this
  rw [h.row.cellAt _ (by omega), recCells_at L.l i r j hi hj10]
  exact hj
theorem rec_log (M : Nat → Prop) (lp dp : Nat) (v : Value) (L : Lg) (n : Int) (r : RecV) (w : World) (hl : LogM M w lp dp v L) (hr : recOf L n = some r) :
    Calls Tryz.prog 23 #[.pointer (some ⟨lp, 0, none⟩), .int .i64 n] w fun e w' => e = .returned (.tuple #[recV r, .bool true]) ∧ Below w.heap.size w w' := by
  obtain ⟨h1, h2⟩ := recOf_lt hr
  obtain ⟨k1, k2, k3, k4, k5, k6, k7, k8⟩ := lg_bounds hl.ok
  have HLOG := Aside0.mk (fun (W : World) (hb : Below w.heap.size w W) => last_log M lp dp v L W (hl.below hb))
  have HC := Aside0.mk (fun (W : World) (hb : Below w.heap.size w W) => (hl.below hb).cells)
  obtain ⟨i, hi⟩ : ∃ i : Nat, (n - L.base - 1).toNat = i := ⟨_, rfl⟩
  have hri : L.l[i]? = some r := by
    unfold recOf at hr
    rw [if_neg (by omega), hi] at hr
    exact hr
  have hil := (List.getElem?_eq_some_iff.1 hri).1
  obtain ⟨A, c, hv⟩ := hl.form
  subst hv
  have HAT := Aside0.mk (fun (W : World) (hb : Below w.heap.size w W) => LogM.at_ (hl.below hb) hri)
  obtain ⟨len, hlen⟩ : ∃ len, L.l.length = len := ⟨_, rfl⟩
  obtain ⟨ba, hba⟩ : ∃ ba, L.base = ba := ⟨_, rfl⟩
  obtain ⟨la, hla⟩ : ∃ la, L.last = la := ⟨_, rfl⟩
  rw [hlen] at hil HC k7
  rw [hba] at h1 k5 k6 hi HC
  rw [hla] at h2 HLOG
  have hidx : n - ba - 1 = (i : Int) := by omega
  have hb1 : n ≤ 2000000000 := by have : la = ba + len := by rw [← hla, ← hba, ← hlen]; rfl
                                  omega
  have q1 : decide (n ≤ ba) = false := decide_eq_false (by omega)
  have q2 : decide (la < n) = false := decide_eq_false (by omega)
  have hil2 : (i : Int) < (len : Int) := by omega
  have hpl := heap_lt hl.box
  obtain ⟨kd, tx, pg, pv, nx, key, had, has_, old, new⟩ := r
  clear hl hr hri hlen hba hla k1 k2 k3 k4 k8 hi
  obtain ⟨c0, c1, c2, c3, c4, c5, c6⟩ := HC.out w (Below.refl _ _)
  clear c0 c1 c2 c4 c6
  go_enter Tryz.func23, Tryz.ntmps23
  go_wp2_with fail
  refine (HLOG.out _ (below_alloc (Below.refl _ _) _)).mono ?_
  rintro e w1 ⟨rfl, hb⟩
  have HB := Aside0.mk (below_step (below_alloc (Below.refl w.heap.size w) _) hb)
  obtain ⟨c0, c1, c2, c3', c4, c5', c6⟩ := HC.out w1 HB.out
  obtain ⟨g, hA, hat⟩ := HAT.out w1 HB.out
  subst hA
  have m0 : w1.cell? ⟨g, i * 10, none⟩ = some (.int .i64 kd) := hat 0 _ rfl
  have m1 := hat 1 _ rfl
  have m2 := hat 2 _ rfl
  have m3 := hat 3 _ rfl
  have m4 := hat 4 _ rfl
  have m5 := hat 5 _ rfl
  have m6 := hat 6 _ rfl
  have m7 := hat 7 _ rfl
  have m8 := hat 8 _ rfl
  have m9 := hat 9 _ rfl
  have hres := (hb.block w.heap.size (by show _ < (w.heap.push _).size; rw [Array.size_push]; omega)).trans (heap_alloc_new w (.cells #[.int .i64 0, .int .i64 0, .int .i64 0, .int .i64 0, .int .i64 0, .int .i64 0, .bool false, .bool false, .int .i64 0, .int .i64 0] 46))
  have HRS := Aside0.mk hres
  have z0 : w1.cell? ⟨w.heap.size, 0, none⟩ = some (.int .i64 0) := by simp [World.cell?, hres]
  have z1 : w1.cell? ⟨w.heap.size, 1, none⟩ = some (.int .i64 0) := by simp [World.cell?, hres]
  have z2 : w1.cell? ⟨w.heap.size, 2, none⟩ = some (.int .i64 0) := by simp [World.cell?, hres]
  have z3 : w1.cell? ⟨w.heap.size, 3, none⟩ = some (.int .i64 0) := by simp [World.cell?, hres]
  have z4 : w1.cell? ⟨w.heap.size, 4, none⟩ = some (.int .i64 0) := by simp [World.cell?, hres]
  have z5 : w1.cell? ⟨w.heap.size, 5, none⟩ = some (.int .i64 0) := by simp [World.cell?, hres]
  have z6 : w1.cell? ⟨w.heap.size, 6, none⟩ = some (.bool false) := by simp [World.cell?, hres]
  have z7 : w1.cell? ⟨w.heap.size, 7, none⟩ = some (.bool false) := by simp [World.cell?, hres]
  have z8 : w1.cell? ⟨w.heap.size, 8, none⟩ = some (.int .i64 0) := by simp [World.cell?, hres]
  have z9 : w1.cell? ⟨w.heap.size, 9, none⟩ = some (.int .i64 0) := by simp [World.cell?, hres]
  have zf : ∀ j, w1.frozen? ⟨w.heap.size, j, none⟩ = false := fun j => by simp [World.frozen?, hres]
  clear hat hb hres c0 c1 c2 c4 c6 HC HAT HLOG
  go_wp2_with fail
  go_region
  all_goals
    go_wp2_with fail
    have hcc : (((((((((w1.setCell ⟨w.heap.size, 0, none⟩ (.int .i64 kd)).setCell ⟨w.heap.size, 1, none⟩ (.int .i64 tx)).setCell ⟨w.heap.size, 2, none⟩ (.int .i64 pg)).setCell ⟨w.heap.size, 3, none⟩ (.int .i64 pv)).setCell ⟨w.heap.size, 4, none⟩ (.int .i64 nx)).setCell ⟨w.heap.size, 5, none⟩ (.int .i64 key)).setCell ⟨w.heap.size, 6, none⟩ (.bool had)).setCell ⟨w.heap.size, 7, none⟩ (.bool has_)).setCell ⟨w.heap.size, 8, none⟩ (.int .i64 old)).setCell ⟨w.heap.size, 9, none⟩ (.int .i64 new) = recPut w1 w.heap.size ⟨kd, tx, pg, pv, nx, key, had, has_, old, new⟩ := rfl
    rw [hcc]
    have hpx := recPut_heap HRS.out ⟨kd, tx, pg, pv, nx, key, had, has_, old, new⟩
    have hbx := recPut_below HB.out (Nat.le_refl _) ⟨kd, tx, pg, pv, nx, key, had, has_, old, new⟩
    obtain ⟨wx, hwx⟩ : ∃ wx, recPut w1 w.heap.size ⟨kd, tx, pg, pv, nx, key, had, has_, old, new⟩ = wx := ⟨_, rfl⟩
    rw [hwx] at hpx hbx ⊢
    obtain ⟨y0, y1, y2, y3, y4, y5, y6, y7, y8, y9⟩ := rec_cells hpx
    have HBX := Aside0.mk hbx
    clear hcc hwx z0 z1 z2 z3 z4 z5 z6 z7 z8 z9 zf m0 m1 m2 m3 m4 m5 m6 m7 m8 m9 hpx hbx c3' c5'
    refine bodyPost_ret (v := .tuple #[recV ⟨kd, tx, pg, pv, nx, key, had, has_, old, new⟩, .bool true]) ?_ ?_ ?_
    case refine_2 => rfl
    case refine_3 => exact ⟨rfl, by repeat (first | exact HBX.out | apply below_drew1)⟩
    simp [results, Tryz.results23, go_sem, recV, recA, y0, y1, y2, y3, y4, y5, y6, y7, y8, y9]
end Go.Proofs.YtaplpeoikebedaaGreatDoor.WalR
namespace Go.Proofs.YtaplpeoikebedaaGreatDoor.ChainT
open Go.RowKit YtaplpeoikebedaaGreatDoorW.PrintWords YtaplpeoikebedaaGreatDoorW.PrintLast YtaplpeoikebedaaGreatDoorW.PrintMore
open See Mem Clone Go.Proofs.YtaplpeoikebedaaGreatDoor.Cell Page PageR Disk DiskN Pool1 Pool2 Num RecD Rec BlockB Pool3 Wal WalR StoreD
attribute [local go_sem] max2_imax min2_imin max_two min_two
theorem norm_nonneg {L : Lg} {n k : Int} (h : Norm L n k) (hb : 0 ≤ L.base) : 0 ≤ n := by
  cases h with
  | zero => omega
  | set _ h1 _ => have := recOf_lt h1; omega
  | begin _ h1 _ => have := recOf_lt h1; omega
  | clr _ h1 _ _ _ => have := recOf_lt h1; omega
  | end_ _ h1 _ _ _ => have := recOf_lt h1; omega
theorem norm_step {L : Lg} {n k : Int} (h : Norm L n k) : (n = 0 ∧ k = 0) ∨ (n ≠ 0 ∧ ∃ r, recOf L n = some r ∧ ((r.kind = 2 ∧ k = n) ∨ (r.kind = 1 ∧ k = 0) ∨ (r.kind = 3 ∧ r.next < n ∧ Norm L r.next k) ∨ ((r.kind = 4 ∨ r.kind = 5) ∧ r.prev < n ∧ Norm L r.prev k))) := by
  cases h with
  | zero => exact .inl ⟨rfl, rfl⟩
  | set h0 h1 h2 => exact .inr ⟨h0, _, h1, .inl ⟨h2, rfl⟩⟩
  | begin h0 h1 h2 => exact .inr ⟨h0, _, h1, .inr (.inl ⟨h2, rfl⟩)⟩
  | clr h0 h1 h2 h3 h4 => exact .inr ⟨h0, _, h1, .inr (.inr (.inl ⟨h2, h3, h4⟩))⟩
  | end_ h0 h1 h2 h3 h4 => exact .inr ⟨h0, _, h1, .inr (.inr (.inr ⟨h2, h3, h4⟩))⟩
theorem norm_calls (M : Nat → Prop) (lp dp : Nat) (v : Value) (L : Lg) (n k : Int) (w : World) (hl : LogM M w lp dp v L) (hn : Norm L n k) :
    Calls Tryz.prog 130 #[.pointer (some ⟨lp, 0, none⟩), .int .i64 n] w fun e w' => e = .returned (.tuple #[.int .i64 k, .nilIface]) ∧ Below w.heap.size w w' := by
  have HB0 := Aside0.mk hl.ok.base.1
  have HREC := Aside0.mk (fun (W : World) (m : Int) (r : RecV) (hb : Below w.heap.size w W) (hr : recOf L m = some r) => rec_log M lp dp v L m r W (hl.below hb) hr)
  have HN := Aside0.mk hn
  have hn0 := norm_nonneg hn hl.ok.base.1
  clear hl hn
  go_enter Tryz.func130, Tryz.ntmps130
  go_wp2_with fail
  go_loopg [1] (n.toNat + 1) (fun kq v1 w' => ∃ m : Int, v1 = .int .i64 m ∧ Aside0 (0 ≤ m ∧ (kq : Int) = m + 1) ∧ Aside0 (Norm L m k) ∧ Aside0 (Below w.heap.size w w'))
  case atStart => exact ⟨n, rfl, ⟨by omega, by omega⟩, HN, ⟨Below.refl _ _⟩⟩
  case round =>
    obtain ⟨m, rfl, HM, HNM, HB⟩ := hrel
    have hm0 : 0 ≤ m := HM.out.1
    rcases norm_step HNM.out with ⟨h1, h2⟩ | ⟨h1, r, hr, hc⟩
    · subst h1 h2
      go_wp2_with fail
      exact bodyPost_ret (v := .tuple #[.int .i64 0, .nilIface]) (by simp [results, Tryz.results130, go_sem]) rfl ⟨rfl, HB.out⟩
    · have q0 : (m != 0) = true := by rw [bne_iff_ne]; exact h1
      have HR := Aside0.mk hr
      clear hr
      go_wp2_with fail
      refine (HREC.out _ m r HB.out HR.out).mono ?_
      rintro e w1 ⟨rfl, hb⟩
      have HB1 := Aside0.mk (below_step HB.out hb)
      obtain ⟨kd, tx, pg, pv, nx, key, had, has_, old, new⟩ := r
      simp only at hc
      clear hb
      simp only [recV, recA]
      rcases hc with ⟨hk, hkm⟩ | ⟨hk, hkm⟩ | ⟨hk, hlt, hnn⟩ | ⟨hk, hlt, hnn⟩
      · subst hk hkm
        go_wp2_with fail
        exact bodyPost_ret (v := .tuple #[.int .i64 k, .nilIface]) (by simp [results, Tryz.results130, go_sem]) rfl ⟨rfl, by repeat (first | exact HB1.out | apply below_drew1 | apply below_alloc)⟩
      · subst hk hkm
        go_wp2_with fail
        exact bodyPost_ret (v := .tuple #[.int .i64 0, .nilIface]) (by simp [results, Tryz.results130, go_sem]) rfl ⟨rfl, by repeat (first | exact HB1.out | apply below_drew1 | apply below_alloc)⟩
      · subst hk
        have HNN := Aside0.mk hnn
        have hnz := norm_nonneg hnn HB0.out
        have hd : decide (m ≤ nx) = false := decide_eq_false (by omega)
        clear hnn
        go_wp2_with fail
        go_roundg (nx.toNat + 1)
        case measure => have := HM.out; omega
        case rel => exact ⟨nx, rfl, ⟨hnz, by omega⟩, HNN, ⟨by repeat (first | exact HB1.out | apply below_drew1 | apply below_alloc)⟩⟩
      · rcases hk with rfl | rfl
        · have HNN := Aside0.mk hnn
          have hnz := norm_nonneg hnn HB0.out
          have hd : decide (m ≤ pv) = false := decide_eq_false (by omega)
          clear hnn
          go_wp2_with fail
          go_roundg (pv.toNat + 1)
          case measure => have := HM.out; omega
          case rel => exact ⟨pv, rfl, ⟨hnz, by omega⟩, HNN, ⟨by repeat (first | exact HB1.out | apply below_drew1 | apply below_alloc)⟩⟩
        · have HNN := Aside0.mk hnn
          have hnz := norm_nonneg hnn HB0.out
          have hd : decide (m ≤ pv) = false := decide_eq_false (by omega)
          clear hnn
          go_wp2_with fail
          go_roundg (pv.toNat + 1)
          case measure => have := HM.out; omega
          case rel => exact ⟨pv, rfl, ⟨hnz, by omega⟩, HNN, ⟨by repeat (first | exact HB1.out | apply below_drew1 | apply below_alloc)⟩⟩
end Go.Proofs.YtaplpeoikebedaaGreatDoor.ChainT
namespace Go.Proofs.YtaplpeoikebedaaGreatDoor.FwdM
open Go.RowKit Go.Maps YtaplpeoikebedaaGreatDoorW.PrintWords YtaplpeoikebedaaGreatDoorW.PrintLast YtaplpeoikebedaaGreatDoorW.PrintMore
open See Mem Page SysD SysM StoreD StoreF TransT LockT LockU SpaceT WaitT
attribute [local go_sem] max2_imax min2_imin max_two min_two
def fwCells (P blocks frames sess : Int) (lp pp : Nat) (kv tv : Value) (most : Int) (qp mp : Nat) : Array Value :=
  #[.int .i64 P, .int .i64 blocks, .int .i64 frames, .int .i64 sess, .pointer (some ⟨lp, 0, none⟩), .pointer (some ⟨pp, 0, none⟩), kv, .map none, tv, .int .i64 most, .pointer (some ⟨qp, 0, none⟩), .map (some mp)]
def OfM (w : World) (mp : Nat) (m : Int) (of : Int → Int) : Prop :=
  ∃ (n : Nat) (D : DataW Unit), w.ownsMap Tryz.prog 3 (plainElem Tryz.prog 3) mp n D ∧ (n : Int) ≤ m ∧ ∀ s : Int, D.atKey (.int .i64 s) (.lit (.int .i64 0)) = .lit (.int .i64 (of s))
structure FwM (M : Nat → Prop) (w : World) (sp lp pp dp qp mp : Nat) (blocks frames : Int) (F : FS) : Prop where
  box : ∃ kv tv, w.heap[sp]? = some (.cells (fwCells F.P blocks frames F.sess lp pp kv tv F.most qp mp) 118 (0, 0)) ∧ LR w kv F.ks ∧ (∀ k, kv.ownBlock = some k → M k) ∧ TR w tv F.ts ∧ (∀ k, tv.ownBlock = some k → M k)
  sys : SysM M w pp lp dp F.S
  room : SpM w qp F.free F.kept
  of : OfM w mp F.most F.of
  low : M sp ∧ M qp ∧ M mp
theorem FwM.cells {M : Nat → Prop} {w : World} {sp lp pp dp qp mp : Nat} {blocks frames : Int} {F : FS} (h : FwM M w sp lp pp dp qp mp blocks frames F) :
    w.cell? ⟨sp, 0, none⟩ = some (.int .i64 F.P) ∧ w.cell? ⟨sp, 3, none⟩ = some (.int .i64 F.sess) ∧ w.cell? ⟨sp, 4, none⟩ = some (.pointer (some ⟨lp, 0, none⟩)) ∧ w.cell? ⟨sp, 5, none⟩ = some (.pointer (some ⟨pp, 0, none⟩)) ∧ w.cell? ⟨sp, 7, none⟩ = some (.map none) ∧ w.cell? ⟨sp, 9, none⟩ = some (.int .i64 F.most) ∧ w.cell? ⟨sp, 10, none⟩ = some (.pointer (some ⟨qp, 0, none⟩)) ∧ w.cell? ⟨sp, 11, none⟩ = some (.map (some mp)) := by
  obtain ⟨kv, tv, hb, _⟩ := h.box
  refine ⟨?_, ?_, ?_, ?_, ?_, ?_, ?_, ?_⟩ <;> simp [World.cell?, hb, fwCells]
theorem zero_int (w : World) : (zeroValue 3).run Tryz.prog w = .ok (.int .i64 0) w := by kernel_rfl
theorem OfM.below {w w' : World} {mp : Nat} {m : Int} {of : Int → Int} (h : OfM w mp m of) (hb : Below w.heap.size w w') : OfM w' mp m of := by
  obtain ⟨n, D, ⟨es, cl, h1, h2⟩, h3⟩ := h
  exact ⟨n, D, ⟨es, cl, (hb.block mp (heap_lt h1)).trans h1, h2⟩, h3⟩
theorem OfM.frm {T : List Nat} {M : Nat → Prop} {w w' : World} {mp : Nat} {m : Int} {of : Int → Int} (h : OfM w mp m of) (hf : Frm T M w w') (h0 : 0 ∉ T) : OfM w' mp m of := by
  obtain ⟨n, D, ⟨es, cl, h1, h2⟩, h3⟩ := h
  exact ⟨n, D, ⟨es, cl, (hf.block mp (heap_lt h1) (fun _ => by unfold tag; rw [h1]; exact h0)).trans h1, h2⟩, h3⟩
theorem FwM.below {M : Nat → Prop} {w w' : World} {sp lp pp dp qp mp : Nat} {blocks frames : Int} {F : FS} (h : FwM M w sp lp pp dp qp mp blocks frames F) (hb : Below w.heap.size w w') : FwM M w' sp lp pp dp qp mp blocks frames F := by
  obtain ⟨⟨kv, tv, b1, b2, b3, b4, b5⟩, s, r, o, l⟩ := h
  exact ⟨⟨kv, tv, (hb.block sp (heap_lt b1)).trans b1, b2.below hb, b3, b4.below hb, b5⟩, s.below hb, r.below hb, o.below hb, l⟩
end Go.Proofs.YtaplpeoikebedaaGreatDoor.FwdM
namespace Go.Proofs.YtaplpeoikebedaaGreatDoor.FwdP
open Go.RowKit Go.Maps YtaplpeoikebedaaGreatDoorW.PrintWords YtaplpeoikebedaaGreatDoorW.PrintLast YtaplpeoikebedaaGreatDoorW.PrintMore
open See Mem Page PageR Disk DiskW RecD Wal Dirty Dirty2 SysD SysM FlushG StoreD StoreF TransT LockT LockU SpaceT WaitT FwdM
structure Kp (M : Nat → Prop) (w w' : World) : Prop where
  os : w'.os = w.os
  tape : w'.tape = w.tape
  output : w'.output = w.output
  size : w.heap.size ≤ w'.heap.size
  block : ∀ k, k < w.heap.size → ¬ M k → w'.heap[k]? = w.heap[k]?
  ent : ∀ k, k < w.heap.size → tag w k = 169 → w'.heap[k]? = w.heap[k]?
theorem Kp.refl (M : Nat → Prop) (w : World) : Kp M w w := ⟨rfl, rfl, rfl, Nat.le_refl _, fun _ _ _ => rfl, fun _ _ _ => rfl⟩
theorem Kp.of_below {M : Nat → Prop} {w w' : World} (h : Below w.heap.size w w') : Kp M w w' := ⟨h.os, h.tape, h.output, h.size, fun k hk _ => h.block k hk, fun k hk _ => h.block k hk⟩
theorem Kp.of_frm {T : List Nat} {M : Nat → Prop} {w w' : World} (h : Frm T M w w') (ht : 169 ∉ T) : Kp M w w' := ⟨h.os, h.tape, h.output, h.size, fun k hk hn => h.block k hk fun hm => absurd hm hn, fun k hk he => h.block k hk fun _ => by rw [he]; exact ht⟩
theorem Kp.wide {M M' : Nat → Prop} {w w' : World} (h : Kp M w w') (hm : ∀ k, M k → M' k) : Kp M' w w' := ⟨h.os, h.tape, h.output, h.size, fun k hk hn => h.block k hk fun h2 => hn (hm k h2), h.ent⟩
theorem Kp.transG {M : Nat → Prop} {w w1 w2 : World} (h : Kp M w w1) (k : Kp (Gr M w w1) w1 w2) : Kp M w w2 :=
  ⟨k.os.trans h.os, k.tape.trans h.tape, k.output.trans h.output, Nat.le_trans h.size k.size, fun i hi hn => (k.block i (Nat.lt_of_lt_of_le hi h.size) (fun hm => by
    rcases hm with hm | ⟨a, _⟩
    · exact hn hm
    · omega)).trans (h.block i hi hn), fun i hi ht => by
    have e := h.ent i hi ht
    exact (k.ent i (Nat.lt_of_lt_of_le hi h.size) (by rw [tag_eq e]; exact ht)).trans e⟩
theorem Kp.trans {M : Nat → Prop} {w w1 w2 : World} (h : Kp M w w1) (k : Kp M w1 w2) : Kp M w w2 := h.transG (k.wide fun _ h => .inl h)
theorem Kp.step {M : Nat → Prop} {w w1 w2 : World} (h : Kp M w w1) (k : Below w1.heap.size w1 w2) : Kp M w w2 := h.trans (.of_below k)
theorem Kp.below {M : Nat → Prop} {w w' : World} {B : Nat} (h : Kp M w w') (hM : ∀ k, M k → B ≤ k) (hB : B ≤ w.heap.size) : Below B w w' :=
  ⟨h.os, h.tape, h.output, h.size, fun k hk => h.block k (by omega) (fun hm => by have := hM k hm; omega)⟩
theorem Kp.at {M : Nat → Prop} {w w' : World} (h : Kp M w w') {k : Nat} {o : Obj} (hk : w.heap[k]? = some o) (hn : ¬ M k) : w'.heap[k]? = some o := (h.block k (heap_lt hk) hn).trans hk
def OutAll (M : Nat → Prop) (a : Nat → Addr) : Prop := ∀ i, i < 18 → ¬ M (gl i) ∧ ¬ M (a i).block
theorem OutAll.k {M : Nat → Prop} {a : Nat → Addr} (h : OutAll M a) (K : List Nat) (hK : ∀ i ∈ K, i < 18) : OutK K M a := fun i hi => h i (hK i hi)
theorem OutAll.gr {M : Nat → Prop} {a : Nat → Addr} {w w' : World} (h : OutAll M a) (hs : SentsAll w a) : OutAll (Gr M w w') a := fun i hi => by
  obtain ⟨h1, h2⟩ := h i hi
  have l1 : gl i < w.heap.size := World.block_lt_of_cell? _ _ (hs.cell i hi)
  obtain ⟨c, t, hr⟩ := hs.row i hi
  have l2 := heap_lt hr
  refine ⟨fun hm => ?_, fun hm => ?_⟩
  · rcases hm with hm | ⟨a1, _⟩
    · exact h1 hm
    · omega
  · rcases hm with hm | ⟨a1, _⟩
    · exact h2 hm
    · omega
theorem OutAll.sub {M M' : Nat → Prop} {a : Nat → Addr} (h : OutAll M a) (hm : ∀ k, M' k → M k) : OutAll M' a := fun i hi => ⟨fun h2 => (h i hi).1 (hm _ h2), fun h2 => (h i hi).2 (hm _ h2)⟩
theorem SentsAll.kp {M : Nat → Prop} {w w1 : World} {a : Nat → Addr} (h : SentsAll w a) (hk : Kp M w w1) (ho : OutAll M a) : SentsAll w1 a := by
  refine ⟨fun i hi => ?_, fun i hi => ?_, h.ne⟩
  · have hc := h.cell i hi
    have hl : gl i < w.heap.size := World.block_lt_of_cell? _ _ hc
    have hb := hk.block (gl i) hl (ho i hi).1
    rw [← hc]
    simp only [World.cell?, hb]
  · obtain ⟨c, t, hr⟩ := h.row i hi
    exact ⟨c, t, hk.at hr (ho i hi).2⟩
def Cut (M : Nat → Prop) (n : Nat) : Nat → Prop := fun k => M k ∧ k < n
theorem SecM.cut {M : Nat → Prop} {w : World} {u v : Value} {s : Sec} (h : SecM M w u v s) : SecM (Cut M w.heap.size) w u v s := by
  refine ⟨h.fast, h.loose, fun k hk => ⟨h.low k hk, ?_⟩⟩
  obtain ⟨vs, h1, _⟩ := h.loose
  obtain ⟨_, c, hc⟩ := ow_block h1 hk
  exact heap_lt hc
theorem DskM.cut {M : Nat → Prop} {w : World} {p : Nat} {d : Dsk} (h : DskM M w p d) : DskM (Cut M w.heap.size) w p d := by
  obtain ⟨g, cap, rs, h⟩ := h
  refine ⟨g, cap, rs, h.box, h.row, h.len, ⟨h.mp, heap_lt h.box⟩, ⟨h.mg, ?_⟩, fun i r s hi hs => SecM.cut (h.secs i r s hi hs), h.apart, h.ok, h.few⟩
  obtain ⟨_, c, hc⟩ := ow_block h.row (k := g) rfl
  exact heap_lt hc
theorem LogM.cut {M : Nat → Prop} {w : World} {lp dp : Nat} {v : Value} {L : Lg} (h : LogM M w lp dp v L) : LogM (Cut M w.heap.size) w lp dp v L :=
  ⟨h.box, h.row, fun k hk => ⟨h.low k hk, by obtain ⟨_, c, hc⟩ := ow_block h.row hk; exact heap_lt hc⟩, ⟨h.mp, heap_lt h.box⟩, h.ok⟩
theorem TabM.cut {M : Nat → Prop} {w : World} {p : Nat} {cs : Array Value} {v : Value} {ds : List (Int × Int)} (h : TabM M w p cs v ds) : TabM (Cut M w.heap.size) w p cs v ds :=
  ⟨h.box, h.at0, h.row, fun k hk => ⟨h.low k hk, by obtain ⟨_, c, hc⟩ := ow_block h.row.1 hk; exact heap_lt hc⟩, ⟨h.mp, heap_lt h.box⟩, h.rise⟩
theorem FrsP.cut {M : Nat → Prop} {w : World} {h : Value} {fs : List Pool1.Fr} {here : List Fp} (x : FrsP M w h fs here) : FrsP (Cut M w.heap.size) w h fs here :=
  ⟨x.frs, x.eq, fun k hk => ⟨x.low k hk, by obtain ⟨_, c, hc⟩ := ow_block x.frs.row hk; exact heap_lt hc⟩⟩
theorem SysM.cut {M : Nat → Prop} {w : World} {pp lp dp : Nat} {S : PSys} (h : SysM M w pp lp dp S) : SysM (Cut M w.heap.size) w pp lp dp S := by
  obtain ⟨h1, ⟨v, h2⟩, ⟨t, hv, fs, h3, h4⟩, h5, h6, h7, h8⟩ := h
  exact ⟨DskM.cut h1, ⟨v, LogM.cut h2⟩, ⟨t, hv, fs, TabM.cut h3, FrsP.cut h4⟩, h5, h6, h7, h8⟩
theorem FwM.cut {M : Nat → Prop} {w : World} {sp lp pp dp qp mp : Nat} {blocks frames : Int} {F : FS} (h : FwM M w sp lp pp dp qp mp blocks frames F) : FwM (Cut M w.heap.size) w sp lp pp dp qp mp blocks frames F := by
  obtain ⟨⟨kv, tv, b1, b2, b3, b4, b5⟩, s, r, o, l1, l2, l3⟩ := h
  refine ⟨⟨kv, tv, b1, b2, fun k hk => ⟨b3 k hk, ?_⟩, b4, fun k hk => ⟨b5 k hk, ?_⟩⟩, SysM.cut s, r, o, ⟨l1, heap_lt b1⟩, ⟨l2, heap_lt r⟩, ⟨l3, ?_⟩⟩
  · obtain ⟨_, c, hc⟩ := ow_block b2.1 hk; exact heap_lt hc
  · obtain ⟨_, c, hc⟩ := ow_block b4.1 hk; exact heap_lt hc
  · obtain ⟨n, D, ⟨es, cl, h1, _⟩, _⟩ := o
    exact heap_lt h1
theorem FwM.mono {M M' : Nat → Prop} {w : World} {sp lp pp dp qp mp : Nat} {blocks frames : Int} {F : FS} (h : FwM M w sp lp pp dp qp mp blocks frames F) (hm : ∀ k, M k → M' k) : FwM M' w sp lp pp dp qp mp blocks frames F := by
  obtain ⟨⟨kv, tv, b1, b2, b3, b4, b5⟩, s, r, o, l1, l2, l3⟩ := h
  exact ⟨⟨kv, tv, b1, b2, fun k hk => hm k (b3 k hk), b4, fun k hk => hm k (b5 k hk)⟩, s.mono hm, r, o, hm _ l1, hm _ l2, hm _ l3⟩
theorem SysM.out {M : Nat → Prop} {w w' : World} {pp lp dp : Nat} {S : PSys} (h : SysM M w pp lp dp S) (hb : ∀ k, k < w.heap.size → (M k ∨ tag w k ∈ dTags ∨ tag w k = 169) → w'.heap[k]? = w.heap[k]?) : SysM M w' pp lp dp S := by
  obtain ⟨h1, ⟨v, h2⟩, ⟨t, hv, fs, h3, h4⟩, h5, h6, h7, h8⟩ := h
  refine ⟨h1.move fun k hk ht => hb k hk (.inr (.inl ht)), ⟨v, h2.move fun k hk _ hm => hb k hk (.inl hm)⟩, ⟨t, hv, fs, ⟨?_, h3.at0, ⟨ow_move h3.row.1 fun k hk => ?_, h3.row.2⟩, h3.low, h3.mp, h3.rise⟩, h4.move fun k hk => ⟨fun _ hm => hb k hk (.inl hm), fun ht => hb k hk (.inr (.inr ht))⟩⟩, h5, h6, h7, h8⟩
  · exact (hb pp (heap_lt h3.box) (.inl h3.mp)).trans h3.box
  · obtain ⟨_, c, hc⟩ := ow_block h3.row.1 hk
    exact hb k (heap_lt hc) (.inl (h3.low k hk))
theorem FwM.out {M : Nat → Prop} {w w' : World} {sp lp pp dp qp mp : Nat} {blocks frames : Int} {F : FS} (h : FwM M w sp lp pp dp qp mp blocks frames F) (hb : ∀ k, k < w.heap.size → (M k ∨ tag w k ∈ dTags ∨ tag w k = 169) → w'.heap[k]? = w.heap[k]?) : FwM M w' sp lp pp dp qp mp blocks frames F := by
  obtain ⟨⟨kv, tv, b1, b2, b3, b4, b5⟩, s, r, o, l1, l2, l3⟩ := h
  refine ⟨⟨kv, tv, (hb sp (heap_lt b1) (.inl l1)).trans b1, ⟨ow_move b2.1 fun k hk => ?_, b2.2⟩, b3, ⟨ow_move b4.1 fun k hk => ?_, b4.2⟩, b5⟩, SysM.out s hb, (hb qp (heap_lt r) (.inl l2)).trans r, ?_, l1, l2, l3⟩
  · obtain ⟨_, c, hc⟩ := ow_block b2.1 hk; exact hb k (heap_lt hc) (.inl (b3 k hk))
  · obtain ⟨_, c, hc⟩ := ow_block b4.1 hk; exact hb k (heap_lt hc) (.inl (b5 k hk))
  · obtain ⟨n, D, ⟨es, cl, h1, h2⟩, h3⟩ := o
    exact ⟨n, D, ⟨es, cl, (hb mp (heap_lt h1) (.inl l3)).trans h1, h2⟩, h3⟩
theorem OfM.up {w : World} {mp : Nat} {m m' : Int} {of : Int → Int} (h : OfM w mp m of) (hm : m ≤ m') : OfM w mp m' of := by
  obtain ⟨n, D, h1, h2, h3⟩ := h
  exact ⟨n, D, h1, Int.le_trans h2 hm, h3⟩
def FwPost (M : Nat → Prop) (sp lp pp dp qp mp : Nat) (blocks frames : Int) (F : FS) (w w' : World) : Prop := FwM (Gr M w w') w' sp lp pp dp qp mp blocks frames F ∧ Kp M w w'
section
variable {M : Nat → Prop} {sp lp pp dp qp mp : Nat} {blocks frames : Int}
theorem FwPost.refl {F : FS} {w : World} (h : FwM M w sp lp pp dp qp mp blocks frames F) : FwPost M sp lp pp dp qp mp blocks frames F w w := ⟨FwM.mono h fun _ h => .inl h, .refl _ _⟩
theorem FwPost.trans {F F' : FS} {w w1 w2 : World} (h : FwPost M sp lp pp dp qp mp blocks frames F w w1) (k : FwM (Gr M w w1) w1 sp lp pp dp qp mp blocks frames F → FwPost (Gr M w w1) sp lp pp dp qp mp blocks frames F' w1 w2) : FwPost M sp lp pp dp qp mp blocks frames F' w w2 := by
  obtain ⟨a, b⟩ := h
  obtain ⟨c, d⟩ := k a
  exact ⟨FwM.mono c fun j hj => Gr.trans b.size d.size hj, b.transG d⟩
theorem FwPost.step {F : FS} {w w1 w2 : World} (h : FwPost M sp lp pp dp qp mp blocks frames F w w1) (k : Below w1.heap.size w1 w2) : FwPost M sp lp pp dp qp mp blocks frames F w w2 :=
  ⟨FwM.mono (h.1.below k) fun j hj => Gr.grow k.size hj, h.2.step k⟩
theorem FwPost.back {F : FS} {w w1 w2 : World} (h : FwPost M sp lp pp dp qp mp blocks frames F w1 w2) (k : Below w.heap.size w w1) : FwPost M sp lp pp dp qp mp blocks frames F w w2 := by
  refine ⟨FwM.mono h.1 fun j hj => ?_, (Kp.of_below k).trans h.2⟩
  rcases hj with hj | ⟨a, b⟩
  · exact .inl hj
  · exact .inr ⟨Nat.le_trans k.size a, b⟩
theorem FwPost.wide {M' : Nat → Prop} {F : FS} {w w' : World} (h : FwPost M sp lp pp dp qp mp blocks frames F w w') (hm : ∀ k, M k → M' k) : FwPost M' sp lp pp dp qp mp blocks frames F w w' :=
  ⟨FwM.mono h.1 fun j hj => hj.imp (hm j) id, h.2.wide hm⟩
theorem FwM.txs {F : FS} {w : World} (h : FwM M w sp lp pp dp qp mp blocks frames F) (hr : Rising (kvT F.ts)) : ∃ cs tv, TxM M w sp 8 118 cs tv F.ts F.most ∧ ∀ ts' most' w', F.most ≤ most' → TxPost M sp 8 118 cs ts' most' w w' → FwPost M sp lp pp dp qp mp blocks frames { F with ts := ts', most := most' } w w' := by
  obtain ⟨⟨kv, tv, b1, b2, b3, b4, b5⟩, s, r, o, l1, l2, l3⟩ := h
  refine ⟨_, tv, ⟨b1, rfl, rfl, b4, b5, l1, hr, by decide⟩, fun ts' most' w' hmm ⟨v', t, hf⟩ => ⟨⟨⟨kv, v', t.box, b2.frm hf (by decide), fun k hk => .inl (b3 k hk), t.row, t.low⟩, ?_, r.frm hf (by decide), OfM.up (o.frm hf (by decide)) hmm, .inl l1, .inl l2, .inl l3⟩, .of_frm hf (by decide)⟩⟩
  obtain ⟨h1, ⟨v, h2⟩, ⟨u, hv, fs, h3, h4⟩, h5, h6, h7, h8⟩ := s
  exact SysM.mono ⟨h1.frm hf (by decide), ⟨v, h2.frm hf (by decide)⟩, ⟨u, hv, fs, TabM.frm h3 hf (by decide) (by decide), h4.frm hf (by decide) (by decide)⟩, h5, h6, h7, h8⟩ fun _ h => .inl h
theorem FwM.lks {F : FS} {w : World} (h : FwM M w sp lp pp dp qp mp blocks frames F) : ∃ cs kv, LkM M w sp 6 118 cs kv F.ks ∧ ∀ ks' w', LkPost M sp 6 118 cs ks' w w' → FwPost M sp lp pp dp qp mp blocks frames { F with ks := ks' } w w' := by
  obtain ⟨⟨kv, tv, b1, b2, b3, b4, b5⟩, s, r, o, l1, l2, l3⟩ := h
  refine ⟨_, kv, ⟨b1, rfl, b2, b3, l1, by decide⟩, fun ks' w' ⟨v', t, hf⟩ => ⟨⟨⟨v', tv, t.box, t.row, t.low, b4.frm hf (by decide), fun k hk => .inl (b5 k hk)⟩, ?_, r.frm hf (by decide), o.frm hf (by decide), .inl l1, .inl l2, .inl l3⟩, .of_frm hf (by decide)⟩⟩
  obtain ⟨h1, ⟨v, h2⟩, ⟨u, hv, fs, h3, h4⟩, h5, h6, h7, h8⟩ := s
  exact SysM.mono ⟨h1.frm hf (by decide), ⟨v, h2.frm hf (by decide)⟩, ⟨u, hv, fs, TabM.frm h3 hf (by decide) (by decide), h4.frm hf (by decide) (by decide)⟩, h5, h6, h7, h8⟩ fun _ h => .inl h
theorem FwM.spc {F : FS} {w : World} (h : FwM M w sp lp pp dp qp mp blocks frames F) {fr kp : Int} {w' : World} (hs : SpM w' qp fr kp) (hf : Frm [193] M w w') : FwPost M sp lp pp dp qp mp blocks frames { F with free := fr, kept := kp } w w' := by
  obtain ⟨⟨kv, tv, b1, b2, b3, b4, b5⟩, s, r, o, l1, l2, l3⟩ := h
  refine ⟨⟨⟨kv, tv, hf.at b1 (.inl (by decide)), b2.frm hf (by decide), fun k hk => .inl (b3 k hk), b4.frm hf (by decide), fun k hk => .inl (b5 k hk)⟩, ?_, hs, o.frm hf (by decide), .inl l1, .inl l2, .inl l3⟩, .of_frm hf (by decide)⟩
  obtain ⟨h1, ⟨v, h2⟩, ⟨u, hv, fs, h3, h4⟩, h5, h6, h7, h8⟩ := s
  exact SysM.mono ⟨h1.frm hf (by decide), ⟨v, h2.frm hf (by decide)⟩, ⟨u, hv, fs, TabM.frm h3 hf (by decide) (by decide), h4.frm hf (by decide) (by decide)⟩, h5, h6, h7, h8⟩ fun _ h => .inl h
theorem FwM.mp_ {F : FS} {w : World} (h : FwM M w sp lp pp dp qp mp blocks frames F) {of : Int → Int} {w' : World} (ho : OfM w' mp F.most of) (hg : w.grownBy w' (some mp)) : FwPost M sp lp pp dp qp mp blocks frames { F with of := of } w w' := by
  obtain ⟨⟨kv, tv, b1, b2, b3, b4, b5⟩, s, r, o, l1, l2, l3⟩ := h
  have hm0 : tag w mp = 0 := by
    obtain ⟨n, D, ⟨es, cl, h1, _⟩, _⟩ := o
    unfold tag
    rw [h1]
  have hf : Frm [0] M w w' := (Frm.refl _ _ w).grown hg fun k hk hlt => by cases hk; exact ⟨l3, by rw [hm0]; exact List.mem_cons_self⟩
  refine ⟨⟨⟨kv, tv, hf.at b1 (.inl (by decide)), b2.frm hf (by decide), fun k hk => .inl (b3 k hk), b4.frm hf (by decide), fun k hk => .inl (b5 k hk)⟩, ?_, r.frm hf (by decide), ho, .inl l1, .inl l2, .inl l3⟩, .of_frm hf (by decide)⟩
  obtain ⟨h1, ⟨v, h2⟩, ⟨u, hv, fs, h3, h4⟩, h5, h6, h7, h8⟩ := s
  exact SysM.mono ⟨h1.frm hf (by decide), ⟨v, h2.frm hf (by decide)⟩, ⟨u, hv, fs, TabM.frm h3 hf (by decide) (by decide), h4.frm hf (by decide) (by decide)⟩, h5, h6, h7, h8⟩ fun _ h => .inl h
theorem FwM.sy {F : FS} {w : World} (h : FwM M w sp lp pp dp qp mp blocks frames F) {S' : PSys} {w' : World} (hs : SysM (Gr M w w') w' pp lp dp S') (hf : Frm sTurn M w w') : FwPost M sp lp pp dp qp mp blocks frames { F with S := S' } w w' := by
  obtain ⟨⟨kv, tv, b1, b2, b3, b4, b5⟩, s, r, o, l1, l2, l3⟩ := h
  exact ⟨⟨⟨kv, tv, hf.at b1 (.inl (by decide)), b2.frm hf (by decide), fun k hk => .inl (b3 k hk), b4.frm hf (by decide), fun k hk => .inl (b5 k hk)⟩, hs, r.frm hf (by decide), o.frm hf (by decide), .inl l1, .inl l2, .inl l3⟩, .of_frm hf (by decide)⟩
theorem FwM.lg {F : FS} {w : World} (h : FwM M w sp lp pp dp qp mp blocks frames F) {L' : Lg} {w' : World} (hl : ∃ v, LogM (Gr M w w') w' lp dp v L') (hf : Frm lTurn M w w') : FwPost M sp lp pp dp qp mp blocks frames { F with S := { F.S with l := L' } } w w' := by
  obtain ⟨a, b⟩ := sys_log h.sys hl hf
  exact FwM.sy h a b
end
theorem p2_kp {M : Nat → Prop} {w w' : World} {v : Value} {es : List (Int × Int)} (h : P2 w 169 v es) (hk : Kp M w w') : P2 w' 169 v es :=
  ⟨ow_move h.1 fun k hj => by
    obtain ⟨_, c, hc⟩ := ow_block h.1 hj
    exact hk.ent k (heap_lt hc) (tag_of hc), h.2⟩
structure LB (M : Nat → Prop) (sp lp pp dp qp mp : Nat) (blocks frames : Int) (F : FS) (w V0 : World) (R : Nat → Prop) (w3 : World) : Prop where
  f : FwM R w3 sp lp pp dp qp mp blocks frames F
  r : ∀ k, R k → Gr M w w3 k
  nn : ∀ j, w.heap.size ≤ j → j < V0.heap.size → ¬ R j
  k : Kp M w w3
  loc : ∀ j, w.heap.size ≤ j → j < V0.heap.size → w3.heap[j]? = V0.heap[j]?
  sz : V0.heap.size ≤ w3.heap.size
section
variable {M : Nat → Prop} {sp lp pp dp qp mp : Nat} {blocks frames : Int} {F F' : FS} {w V0 w3 w4 : World} {R : Nat → Prop}
theorem LB.start (h : FwM M w sp lp pp dp qp mp blocks frames F) (hb : Below w.heap.size w V0) : LB M sp lp pp dp qp mp blocks frames F w V0 (Cut M w.heap.size) V0 :=
  ⟨(FwM.cut h).below hb, fun k hk => .inl hk.1, fun j hj _ hc => by have := hc.2; omega, .of_below hb, fun _ _ _ => rfl, Nat.le_refl _⟩
theorem LB.below (h : LB M sp lp pp dp qp mp blocks frames F w V0 R w3) (hb : Below w3.heap.size w3 w4) : LB M sp lp pp dp qp mp blocks frames F w V0 R w4 :=
  ⟨h.f.below hb, fun k hk => Gr.grow hb.size (h.r k hk), h.nn, h.k.step hb, fun j h1 h2 => (hb.block j (Nat.lt_of_lt_of_le h2 h.sz)).trans (h.loc j h1 h2), Nat.le_trans h.sz hb.size⟩
theorem LB.step (h : LB M sp lp pp dp qp mp blocks frames F w V0 R w3) (hp : FwPost R sp lp pp dp qp mp blocks frames F' w3 w4) : LB M sp lp pp dp qp mp blocks frames F' w V0 (Gr R w3 w4) w4 := by
  obtain ⟨f, k⟩ := hp
  have s1 := h.k.size
  have s2 := h.sz
  have s3 := k.size
  refine ⟨f, fun j hj => ?_, fun j h1 h2 hc => ?_, ?_, fun j h1 h2 => (k.block j (by omega) (h.nn j h1 h2)).trans (h.loc j h1 h2), by omega⟩
  · rcases hj with hj | ⟨c1, c2⟩
    · exact Gr.grow s3 (h.r j hj)
    · exact .inr ⟨by omega, c2⟩
  · rcases hc with hc | ⟨c1, _⟩
    · exact h.nn j h1 h2 hc
    · omega
  · refine ⟨k.os.trans h.k.os, k.tape.trans h.k.tape, k.output.trans h.k.output, Nat.le_trans s1 s3, fun j hj hn => ?_, fun j hj ht => ?_⟩
    · refine (k.block j (by omega) fun hc => ?_).trans (h.k.block j hj hn)
      rcases h.r j hc with hc | ⟨c1, _⟩
      · exact hn hc
      · omega
    · have e := h.k.ent j hj ht
      exact (k.ent j (by omega) (by rw [tag_eq e]; exact ht)).trans e
theorem LB.post (h : LB M sp lp pp dp qp mp blocks frames F w V0 R w3) : FwPost M sp lp pp dp qp mp blocks frames F w w3 := ⟨FwM.mono h.f h.r, h.k⟩
theorem LB.at (h : LB M sp lp pp dp qp mp blocks frames F w V0 R w3) {j : Nat} {o : Obj} (hj : V0.heap[j]? = some o) (h1 : w.heap.size ≤ j) : w3.heap[j]? = some o := (h.loc j h1 (heap_lt hj)).trans hj
theorem LB.sents {a : Nat → Addr} (h : LB M sp lp pp dp qp mp blocks frames F w V0 R w3) (hs : SentsAll w a) (hO : OutAll M a) : SentsAll w3 a ∧ OutAll R a :=
  ⟨SentsAll.kp hs h.k hO, OutAll.sub (OutAll.gr hO hs) h.r⟩
end
end Go.Proofs.YtaplpeoikebedaaGreatDoor.FwdP
