/- Joined texts: FwdV, FwdW, StoreV, StoreW, FwdX, BackE, First18. No condition but what each says. -/
import Derived.Test.YtaplpeoikebedaaGreatDoorV25
import Derived.Test.YtaplpeoikebedaaGreatDoorV27
import Derived.Test.YtaplpeoikebedaaGreatDoorV26
import Derived.Test.YtaplpeoikebedaaGreatDoorV17
import Derived.Deep.DeepCutAuto
import Derived.BigQuiet
import Derived.Test.YtaplpeoikebedaaGreatDoorV28
import Derived.Test.YtaplpeoikebedaaGreatDoorV32
import Derived.Test.YtaplpeoikebedaaGreatDoorV30
import Derived.Test.YtaplpeoikebedaaGreatDoorV31
set_option maxHeartbeats 8000000
set_option maxRecDepth 100000
set_option linter.unusedVariables false
set_option linter.unusedSimpArgs false
namespace Go.Proofs.YtaplpeoikebedaaGreatDoor.FwdV
open Go.RowKit Go.Maps YtaplpeoikebedaaGreatDoorW.PrintWords YtaplpeoikebedaaGreatDoorW.PrintLast YtaplpeoikebedaaGreatDoorW.PrintMore
open See Mem Page Disk DiskN DiskW RecD Dirty Wal WalF SysD SysM PoolG Pager StoreD PageM StoreF StoreI StoreJ TransT LockT LockU SpaceT WaitT FwdM FwdP FwdC PageO FwdT
attribute [local go_sem] max2_imax min2_imin max_two min_two
def TakesPost1 (M : Nat → Prop) (sp lp pp dp qp mp : Nat) (blocks frames : Int) (F : FS) (n key hint : Int) (w : World) (e : Ending) (w' : World) : Prop :=
  ∃ sl, e = .returned (.tuple #[txV (tget F.ts (F.of n)), .agg #[.int .i64 (cur F.S (placeOf key F.P)).1, sl], .nilIface]) ∧ P2 w' 169 sl (cur F.S (placeOf key F.P)).2 ∧ FwPost M sp lp pp dp qp mp blocks frames (takesF F n key 1 hint) w w'
theorem take1_get {N m : Nat} {ch : Int → List Int} {kp : Int → Int} {F : FS} (h : FOk N m ch kp F) (n key md hint : Int) : getS F.S (placeOf key F.P) hint = ((takesF F n key md hint).S, cur F.S (placeOf key F.P), .fine) := by
  obtain ⟨p1, p2⟩ := placeOf_in key h.g.pg.pages
  obtain ⟨S', e1, _⟩ := get_ok h hint p1 p2
  unfold takesF
  rw [e1]
theorem takes1_calls (a : Nat → Addr) (M : Nat → Prop) (sp lp pp dp qp mp : Nat) (blocks frames : Int) (F : FS) (n key hint : Int) (N m : Nat) (ch : Int → List Int) (kp : Int → Int) (w : World) (h : FwM M w sp lp pp dp qp mp blocks frames F) (hok : FOk N m ch kp F) (hk : whoL F.ks n key 1 = []) (hs : SentsAll w a) (hO : OutAll M a) (h0 : 0 ≤ n) (h1 : n < F.sess) (h2 : F.sess ≤ 1000)
    (hx : thas F.ts (F.of n) = true) (hk0 : 0 ≤ key) (hk1 : key < 1048576) (hl : F.ks.length ≤ 80000) (hm : m ≤ 30000) (hh0 : -9223372036854775808 ≤ hint) (hh1 : hint ≤ 9223372036854775807) :
    Calls Tryz.prog 69 #[.pointer (some ⟨sp, 0, none⟩), .int .i64 n, .int .i64 key, .int .i64 1, .int .i64 hint] w (TakesPost1 M sp lp pp dp qp mp blocks frames F n key hint w) := by
  have HF := Aside0.mk (FwM.cut h)
  have HC := Aside0.mk (fun (W : World) (hb : Below w.heap.size w W) => called_calls _ sp lp pp dp qp mp blocks frames F n W (h.below hb) h0 h1 h2 hx hok.t.rise)
  have HS := Aside0.mk hs
  have HO := Aside0.mk hO
  have HOK := Aside0.mk hok
  have HK := Aside0.mk hk
  have HL := Aside0.mk hl
  have HM := Aside0.mk hm
  have HHB := Aside0.mk (And.intro hh0 hh1)
  have q0 : decide (key < 0) = false := decide_eq_false (by omega)
  have q1 : decide (1048576 ≤ key) = false := decide_eq_false (by omega)
  have hspl : sp < w.heap.size := by obtain ⟨kv, tv, b1, _⟩ := h.box; exact heap_lt b1
  obtain ⟨x, hxx⟩ : ∃ x, tget F.ts (F.of n) = x := ⟨_, rfl⟩
  have HXX := Aside0.mk hxx
  rw [hxx] at HC
  obtain ⟨xi, xs, xl, xn⟩ := x
  clear h hok hk hs hO hl hm hx hxx h0 h1 h2 hh0 hh1
  go_enter Tryz.func69, Tryz.ntmps69
  go_wp2_with fail
  refine (HC.out _ (by repeat (first | exact Below.refl _ _ | apply below_drew1 | apply below_alloc))).mono ?_
  rintro e w1 ⟨rfl, hb⟩
  obtain ⟨W, hW⟩ : ∃ W, (w.alloc z4).alloc z2p = W := ⟨_, rfl⟩
  have hz0 : W.heap[w.heap.size]? = some z4 := by rw [← hW]; exact (Below.heap_alloc _ _ _ (by show _ < (w.heap.push _).size; rw [Array.size_push]; omega)).trans (heap_alloc_new w _)
  have hz1 : W.heap[w.heap.size + 1]? = some z2p := by
    rw [← hW]; have := heap_alloc_new (w.alloc z4) z2p; rw [show (w.alloc z4).heap.size = w.heap.size + 1 from by show (w.heap.push _).size = _; rw [Array.size_push]] at this; exact this
  have hsW : W.heap.size = w.heap.size + 2 := by rw [← hW]; show ((w.heap.push _).push _).size = _; rw [Array.size_push, Array.size_push]
  rw [show (w.alloc (.cells #[.int .i64 0, .int .i64 0, .int .i64 0, .int .i64 0] 102)).alloc (.cells #[.int .i64 0, .slice none 0 0] 74) = W from hW] at hb
  have hB0 : Below w.heap.size w W := by rw [← hW]; repeat (first | exact Below.refl _ _ | apply below_drew1 | apply below_alloc)
  have hB := below_step hB0 hb
  have HQ0 := Aside0.mk ((hb.block _ (heap_lt hz0)).trans hz0)
  have HQ1 := Aside0.mk ((hb.block _ (heap_lt hz1)).trans hz1)
  have hs1 : w.heap.size + 2 ≤ w1.heap.size := by have := hb.size; omega
  obtain ⟨bx, hbx⟩ : ∃ bx, w1.heap.size = bx := ⟨_, rfl⟩
  obtain ⟨W1, hW1⟩ : ∃ W1, w1.alloc (.cells #[.int .i64 xi, .int .i64 xs, .int .i64 xl, .int .i64 xn] 102) = W1 := ⟨_, rfl⟩
  have hBW : Below w.heap.size w W1 := by rw [← hW1]; exact below_alloc hB _
  have hg1 : W1.cell? ⟨6, 0, none⟩ = some (.iface 333 (.pointer (some (a 1)))) := (HS.out.below hBW).cell 1 (by decide)
  have HXB := Aside0.mk (show W1.heap[bx]? = some (.cells #[.int .i64 xi, .int .i64 xs, .int .i64 xl, .int .i64 xn] 102 (0, 0)) from by rw [← hW1, ← hbx]; exact heap_alloc_new _ _)
  have hsW1 : W1.heap.size = bx + 1 := by rw [← hW1, ← hbx]; show (w1.heap.push _).size = _; rw [Array.size_push]
  have HQ0' := Aside0.mk (show W1.heap[w.heap.size]? = some z4 from by rw [← hW1]; exact (Below.heap_alloc _ _ _ (by omega)).trans HQ0.out)
  have HQ1' := Aside0.mk (show W1.heap[w.heap.size + 1]? = some z2p from by rw [← hW1]; exact (Below.heap_alloc _ _ _ (by omega)).trans HQ1.out)
  have HFW := Aside0.mk (HF.out.below hBW)
  have HBW := Aside0.mk hBW
  have HWE := Aside0.mk hW1
  have HBX := Aside0.mk hbx
  obtain ⟨c0, _, _, _, _, _, _, _⟩ := HFW.out.cells
  have hspW : sp < W1.heap.size := by omega
  have he := neq_nil (a 1) W1
  simp only [txV, z4, z2p] at *
  clear hb hB hB0 hW hW1 hBW hz0 hz1 hsW hbx
  go_upto_region 2 with fail
  rw [show w1.alloc (.cells #[.int .i64 xi, .int .i64 xs, .int .i64 xl, .int .i64 xn] 102) = W1 from HWE.out]
  go_upto_region 6 with fail
  obtain ⟨cs, kv, hlk, hput⟩ := FwM.lks HFW.out
  have HLK := Aside0.mk hlk
  have HPUT := Aside0.mk hput
  clear hlk hput
  go_wp2_with fail
  refine (take_calls _ sp 6 118 cs kv F.ks n key 1 _ HLK.out (.inl rfl) HK.out (by have := HL.out; omega)).mono ?_
  rintro e w2 ⟨rfl, hpost⟩
  have HP2 := Aside0.mk (HPUT.out _ _ hpost)
  clear hpost HLK HPUT
  have k0 : w2.cell? ⟨sp, 0, none⟩ = some (.int .i64 F.P) := HP2.out.1.cells.1
  have k5 := HP2.out.1.cells.2.2.2.1
  have HS1 := Aside0.mk (HS.out.below HBW.out)
  have HOC := Aside0.mk (OutAll.sub (M' := Cut M w.heap.size) HO.out fun k hk => hk.1)
  have HS2 := Aside0.mk (SentsAll.kp HS1.out HP2.out.2 HOC.out)
  have HOG := Aside0.mk (OutAll.gr (w' := w2) HOC.out HS1.out)
  have hnc : ∀ k, w.heap.size ≤ k → ¬ Cut M w.heap.size k := fun k hk hc => by have := hc.2; omega
  have hsW2 : W1.heap.size ≤ w2.heap.size := HP2.out.2.size
  have hsp2 : sp < w2.heap.size := by omega
  have hsB : w.heap.size ≤ bx := by have := HBX.out; omega
  have HT0 := Aside0.mk (fun (V : World) (hb : Below w2.heap.size w2 V) => by
    obtain ⟨p1, p2⟩ := placeOf_in key HOK.out.g.pg.pages
    have t1 := take1_get HOK.out n key 1 hint
    have hg := get_pool a _ pp lp dp F.S (placeOf key F.P) hint V ((HS2.out.below hb).k _ (by decide)) (HOG.out.k _ (by decide)) (HP2.out.1.below hb).sys (HOK.out.g.loose.mono (by have := HM.out; omega)) HHB.out.1 HHB.out.2
    exact hg.mono fun e w3 => by
      rintro ⟨sl, ev, rfl, hp, hv, hx, hf⟩
      rw [t1] at hp hv hx ⊢
      have hev : ev = .nilIface := hv
      subst hev
      have hpost := FwM.sy (HP2.out.1.below hb) hx hf
      exact (getin (X := .cells #[.int .i64 xi, .int .i64 xs, .int .i64 xl, .int .i64 xn] 102 (0, 0)) (bx := bx) hp hpost HBW.out HP2.out.2 hb HQ0'.out HQ1'.out HXB.out hsB))
  obtain ⟨pk, hpk⟩ : ∃ pk, placeOf key F.P = pk := ⟨_, rfl⟩
  obtain ⟨P, hP⟩ : ∃ P, F.P = P := ⟨_, rfl⟩
  have HPK := Aside0.mk (show placeOf key P = pk by rw [← hP]; exact hpk)
  have HPB := Aside0.mk (show 1 ≤ P ∧ P ≤ 1000 by rw [← hP]; have := HOK.out.g.pg.pages; have := HOK.out.g.p32; omega)
  obtain ⟨l0, hl0⟩ : ∃ l0, (cur F.S (placeOf key F.P)).1 = l0 := ⟨_, rfl⟩
  obtain ⟨es, hes⟩ : ∃ es, (cur F.S (placeOf key F.P)).2 = es := ⟨_, rfl⟩
  rw [hl0, hes, hpk] at HT0
  rw [hP] at k0
  have HLE := Aside0.mk (And.intro hl0 hes)
  have HT1 := Aside0.mk (fun (V : World) (hb : Below w2.heap.size w2 V) (b : Nat) (o : Obj) (hx : V.heap[b]? = some o) (hb1 : w2.heap.size ≤ b) => (HT0.out V hb).mono (fun e w3 (h : GetIn M sp lp pp dp qp mp blocks frames (takesF F n key 1 hint) l0 es w bx (.cells #[.int .i64 xi, .int .i64 xs, .int .i64 xl, .int .i64 xn] 102 (0, 0)) (Gr (Cut M w.heap.size) W1 w2) V e w3) => (⟨h, by
    obtain ⟨sl, _, _, hk⟩ := h
    refine hk.at hx fun hc => ?_
    rcases hc with hc | ⟨c1, c2⟩
    · have := hc.2; omega
    · omega⟩ : GetIn M sp lp pp dp qp mp blocks frames (takesF F n key 1 hint) l0 es w bx (.cells #[.int .i64 xi, .int .i64 xs, .int .i64 xl, .int .i64 xn] 102 (0, 0)) (Gr (Cut M w.heap.size) W1 w2) V e w3 ∧ w3.heap[b]? = some o)))
  clear hpk hP hl0 hes
  have HNG := fun (V w3 : World) (hv : w2.heap.size < V.heap.size) (hc : Gr (Gr (Cut M w.heap.size) W1 w2) V w3 w2.heap.size) => (show False from by
    rcases hc with (hc | ⟨c1, c2⟩) | ⟨c1, c2⟩
    · have := hc.2; have := HBX.out; omega
    · omega
    · omega)
  have hs12 : w.heap.size + 2 ≤ bx ∧ bx < w2.heap.size := by have := HBX.out; omega
  go_upto_region 12 with fail
  go_cut [14, 15] (fun v14 v15 wx => v14 = .nilIface ∧ ∃ (b : Nat) (sl : Value) (R : Nat → Prop), v15 = .pointer (some ⟨b, 0, none⟩) ∧ Aside0 (wx.heap[b]? = some (.cells #[.int .i64 l0, sl] 74 (0, 0))) ∧ Aside0 (TB M sp lp pp dp qp mp blocks frames (takesF F n key 1 hint) es w bx (.cells #[.int .i64 xi, .int .i64 xs, .int .i64 xl, .int .i64 xn] 102 (0, 0)) R sl wx) ∧ Aside0 (w.heap.size + 2 ≤ b))
  case first =>
    go_region_law (first
      | (go_simp; go_at_call 125; refine (place_at key P pk hk0 hk1 HPB.out.1 HPB.out.2 HPK.out _).mono ?_; rintro e wq ⟨rfl, rfl⟩)
      | (go_simp; go_at_call 37; refine (HT1.out _ (by repeat (first | exact Below.refl _ _ | apply below_drew1 | apply below_alloc)) w2.heap.size _ (by exact heap_alloc_new w2 _) (Nat.le_refl _)).mono ?_; rintro e w3 ⟨⟨sl, rfl, htb, hkp⟩, hbo⟩; obtain ⟨A3, c3, rfl, _⟩ := ow_slice htb.p.1; obtain ⟨o0, o1, g0, g1⟩ := Go.Proofs.YtaplpeoikebedaaGreatDoor.FwdT.pg_cells hbo)
      | (go_simp; go_at_call 37; refine (HT0.out _ (by repeat (first | exact Below.refl _ _ | apply below_drew1 | apply below_alloc))).mono ?_; rintro e w3 ⟨sl, rfl, htb, hkp⟩; obtain ⟨A3, c3, rfl, _⟩ := ow_slice htb.p.1))
    all_goals
      first
        | (rw [show (w3.setCell ⟨w2.heap.size, 0, none⟩ (.int .i64 l0)).setCell ⟨w2.heap.size, 1, none⟩ (.slice A3 es.length c3) = pgPut w3 w2.heap.size l0 (.slice A3 es.length c3) from rfl]
           have HH1 := Aside0.mk (pgPut_heap hbo l0 (.slice A3 es.length c3))
           have HH2 := Aside0.mk (TB.pg htb hbo (HNG _ _ (by show _ < (w2.heap.push _).size; rw [Array.size_push]; omega)) (by omega) (by omega) (by omega) (by omega) l0 (.slice A3 es.length c3))
           have HH3 := Aside0.mk (show w.heap.size + 2 ≤ w2.heap.size by omega)
           clear o0 o1 g0 g1 hbo htb hkp
           generalize pgPut w3 w2.heap.size l0 (.slice A3 es.length c3) = wd at HH1 HH2 ⊢)
        | (have HH1 := Aside0.mk (heap_alloc_new w3 (.cells #[.int .i64 l0, .slice A3 es.length c3] 74))
           have HH2 := Aside0.mk (htb.below (below_alloc (Below.refl _ _) (.cells #[.int .i64 l0, .slice A3 es.length c3] 74)))
           have HH3 := Aside0.mk (show w.heap.size + 2 ≤ w3.heap.size by have := htb.k.size; have := hkp.size; simp at this; omega)
           clear htb hkp
           generalize w3.alloc (.cells #[.int .i64 l0, .slice A3 es.length c3] 74) = wd at HH1 HH2 ⊢)
      go_wp2_with fail
      go_meet
      exact ⟨rfl, _, _, _, rfl, HH1, HH2, HH3⟩
  case rest =>
    obtain ⟨rfl, b, sl, R, rfl, HPG, HTB, HBN⟩ := hcut
    obtain ⟨A3, c3, rfl, _⟩ := ow_slice HTB.out.p.1
    rw [HBX.out]
    obtain ⟨_, _, g0, g1⟩ := Go.Proofs.YtaplpeoikebedaaGreatDoor.FwdT.pg_cells HPG.out
    obtain ⟨x0, x1, x2, x3, _, _, _, _⟩ := tx_cells HTB.out.bx
    obtain ⟨_, _, _, _, r0, r1, r2, r3⟩ := tx_cells HTB.out.b0
    obtain ⟨f0, f1, _, _⟩ := Go.Proofs.YtaplpeoikebedaaGreatDoor.FwdT.pg_cells HTB.out.b1
    have hlt0 := heap_lt HTB.out.b0
    have hlt1 := heap_lt HTB.out.b1
    have n1 : b ≠ w.heap.size := by have := HBN.out; omega
    have n2 : b ≠ w.heap.size + 1 := by have := HBN.out; omega
    have n3 : bx ≠ w.heap.size := by omega
    have n4 : bx ≠ w.heap.size + 1 := by omega
    clear k0 k5 hg1 he hs1 hspW hsW1 hsW2 hsp2 hnc
    go_upto_region 13 with fail
    go_cut [12] (fun v12 wx => v12 = .nilIface ∧ Aside0 (TE M sp lp pp dp qp mp blocks frames (takesF F n key 1 hint) es w ⟨xi, xs, xl, xn⟩ l0 (.slice A3 es.length c3) wx))
    case first =>
      go_region_law (fail)
      all_goals
        rw [show (((((wc.setCell ⟨w.heap.size, 0, none⟩ (.int .i64 xi)).setCell ⟨w.heap.size, 1, none⟩ (.int .i64 xs)).setCell ⟨w.heap.size, 2, none⟩ (.int .i64 xl)).setCell ⟨w.heap.size, 3, none⟩ (.int .i64 xn)).setCell ⟨w.heap.size + 1, 0, none⟩ (.int .i64 l0)).setCell ⟨w.heap.size + 1, 1, none⟩ (.slice A3 es.length c3) = pgPut (txPut wc w.heap.size ⟨xi, xs, xl, xn⟩) (w.heap.size + 1) l0 (.slice A3 es.length c3) from rfl]
        have HTE := Aside0.mk (TB.fin1 HTB.out ⟨xi, xs, xl, xn⟩ l0)
        generalize pgPut (txPut wc w.heap.size ⟨xi, xs, xl, xn⟩) (w.heap.size + 1) l0 (.slice A3 es.length c3) = wd at HTE ⊢
        go_wp2_with fail
        go_meet
        exact ⟨rfl, ⟨TE.below HTE.out (by repeat (first | exact Below.refl _ _ | apply below_drew1))⟩⟩
    case rest =>
      obtain ⟨rfl, HTE⟩ := hcut
      clear g0 g1 x0 x1 x2 x3 r0 r1 r2 r3 f0 f1 hlt0 hlt1
      obtain ⟨x0, x1, x2, x3, _, _, _, _⟩ := tx_cells HTE.out.b0
      obtain ⟨_, _, g0, g1⟩ := Go.Proofs.YtaplpeoikebedaaGreatDoor.FwdT.pg_cells HTE.out.b1
      go_wp2_with fail
      refine bodyPost_ret (v := .tuple #[.agg #[.int .i64 xi, .int .i64 xs, .int .i64 xl, .int .i64 xn], .agg #[.int .i64 l0, .slice A3 es.length c3], .nilIface]) ?_ ?_ ?_
      case refine_2 => rfl
      case refine_3 => exact ⟨.slice A3 es.length c3, by rw [HXX.out, HLE.out.1]; rfl, by rw [HLE.out.2]; exact HTE.out.p, HTE.out.f⟩
      simp [results, Tryz.results69, go_sem, x0, x1, x2, x3, g0, g1]
end Go.Proofs.YtaplpeoikebedaaGreatDoor.FwdV
namespace Go.Proofs.YtaplpeoikebedaaGreatDoor.FwdW
open Go.RowKit Go.Maps YtaplpeoikebedaaGreatDoorW.PrintWords YtaplpeoikebedaaGreatDoorW.PrintLast YtaplpeoikebedaaGreatDoorW.PrintMore
open See Mem Page PageB PageR PageL Disk DiskN DiskW RecD Rec Dirty Wal WalF SysD SysM PoolG Pager StoreD PageM StoreF StoreG StoreI StoreJ PageO HeldT TransT LockT LockU SpaceT WaitT FwdM FwdP FwdC FwdF FwdT FwdB FwdS FwdV
attribute [local go_sem] max2_imax min2_imin max_two min_two
theorem get1_calls (a : Nat → Addr) (M : Nat → Prop) (sp lp pp dp qp mp : Nat) (blocks frames : Int) (F : FS) (n key hint : Int) (N m : Nat) (ch : Int → List Int) (kp : Int → Int) (w : World) (h : FwM M w sp lp pp dp qp mp blocks frames F) (hok : FOk N m ch kp F) (hk : whoL F.ks n key 1 = []) (hs : SentsAll w a) (hO : OutAll M a) (h0 : 0 ≤ n) (h1 : n < F.sess) (h2 : F.sess ≤ 1000)
    (hx : thas F.ts (F.of n) = true) (hk0 : 0 ≤ key) (hk1 : key < 1048576) (hl : F.ks.length ≤ 80000) (hm : m ≤ 30000) (hh0 : -9223372036854775808 ≤ hint) (hh1 : hint ≤ 9223372036854775807) :
    Calls Tryz.prog 27 #[.pointer (some ⟨sp, 0, none⟩), .int .i64 n, .int .i64 key, .int .i64 hint] w fun e w' => e = .returned (.tuple #[.int .i64 (fromOf (cur F.S (placeOf key F.P)).2 key), .bool (has (cur F.S (placeOf key F.P)).2 key), .nilIface]) ∧ FwPost M sp lp pp dp qp mp blocks frames (takesF F n key 1 hint) w w' := by
  have HT := Aside0.mk (takes1_calls a M sp lp pp dp qp mp blocks frames F n key hint N m ch kp w h hok hk hs hO h0 h1 h2 hx hk0 hk1 hl hm hh0 hh1)
  have HRISE := Aside0.mk (show Rising (cur F.S (placeOf key F.P)).2 from by
    have hp2 := placeOf_in key hok.g.pg.pages
    exact PageV.rise (hok.g.pg.curV hp2.1 hp2.2))
  obtain ⟨x, hxx⟩ : ∃ x, tget F.ts (F.of n) = x := ⟨_, rfl⟩
  obtain ⟨l0, hl0⟩ : ∃ l0, (cur F.S (placeOf key F.P)).1 = l0 := ⟨_, rfl⟩
  obtain ⟨es, hes⟩ : ∃ es, (cur F.S (placeOf key F.P)).2 = es := ⟨_, rfl⟩
  unfold TakesPost1 at HT
  rw [hes] at HRISE ⊢
  rw [hxx, hl0, hes] at HT
  obtain ⟨xi, xs, xl, xn⟩ := x
  simp only [txV] at HT
  clear h hok hk hs hO hl hm hx hxx h0 h1 h2 hh0 hh1 hl0 hes
  go_enter Tryz.func27, Tryz.ntmps27
  go_wp2_with fail
  refine HT.out.mono ?_
  rintro e w1 ⟨sl, rfl, hp, hpost⟩
  obtain ⟨A, c, rfl, _⟩ := ow_slice hp.1
  obtain ⟨el, hel⟩ : ∃ el, es.length = el := ⟨_, rfl⟩
  have HEL := Aside0.mk hel
  rw [hel] at hp ⊢
  have HP1 := Aside0.mk hp
  have HP := Aside0.mk hpost
  clear hp hpost hel
  obtain ⟨W, hW⟩ : ∃ W, (w1.alloc (.cells #[.int .i64 xi, .int .i64 xs, .int .i64 xl, .int .i64 xn] 102)).alloc (.cells #[.int .i64 l0, .slice A el c] 74) = W := ⟨_, rfl⟩
  have HBW := Aside0.mk (show Below w1.heap.size w1 W from by rw [← hW]; repeat (first | exact Below.refl _ _ | apply below_alloc))
  obtain ⟨bg, hbg⟩ : ∃ bg, w1.heap.size + 1 = bg := ⟨_, rfl⟩
  have HGB := Aside0.mk (show W.heap[bg]? = some (.cells #[.int .i64 l0, .slice A el c] 74 (0, 0)) from by
    rw [← hW, ← hbg]
    exact ChangeT.alloc_at _ _ (show (w1.alloc _).heap.size = w1.heap.size + 1 from by show (w1.heap.push _).size = _; rw [Array.size_push]))
  have HWN := Aside0.mk (And.intro hW hbg)
  clear hW hbg
  go_upto_region 2 with fail
  rw [HWN.out.1, HWN.out.2]
  obtain ⟨_, _, g0, g1⟩ := FwdT.pg_cells HGB.out
  have hbgl := heap_lt HGB.out
  have HPW := Aside0.mk (HP1.out.below HBW.out)
  have HEG := Aside0.mk (eget_calls l0 (.slice A el c) es key W HPW.out HRISE.out)
  go_wp2_with fail
  refine HEG.out.mono ?_
  rintro e w2 ⟨rfl, hb2⟩
  have HPF := Aside0.mk (FwPost.step HP.out (below_step HBW.out hb2))
  clear hb2 g0 g1 hbgl
  obtain ⟨had, hhad⟩ : ∃ b, has es key = b := ⟨_, rfl⟩
  obtain ⟨old, hold⟩ : ∃ o, fromOf es key = o := ⟨_, rfl⟩
  have HHO := Aside0.mk (And.intro hhad hold)
  rw [hhad, hold]
  clear hhad hold
  go_wp2_with fail
  exact bodyPost_ret (v := .tuple #[.int .i64 old, .bool had, .nilIface]) (by simp [results, Tryz.results27, go_sem]) rfl ⟨by rw [HHO.out.1, HHO.out.2], HPF.out⟩
end Go.Proofs.YtaplpeoikebedaaGreatDoor.FwdW
namespace Go.Proofs.YtaplpeoikebedaaGreatDoor.StoreV
open Go.RowKit See Mem Page PageB PageR PageL Disk DiskW RecD Dirty Dirty2 SysD SysM Wal WalF GoodD PoolG PoolS FlushG Fresh DirtD Pager StoreD PageM StoreF StoreG StoreH LockT LockU StoreI StoreJ
theorem mem_takeL {ks : List Lk} {s key md : Int} (hm : md ≤ 2) {x : Lk} (hx : x ∈ ks) (h2 : x.mode = 2) : x ∈ takeL ks s key md := by
  unfold takeL
  split
  · exact List.mem_append_left _ hx
  · obtain ⟨j, hj, e⟩ := List.getElem_of_mem hx
    refine List.mem_of_getElem? (i := j) ?_
    rw [List.getElem?_modify, List.getElem?_eq_getElem hj, e]
    by_cases q : (lkIdx s key ks 0).toNat = j
    · cases x
      simp [q] at h2 ⊢
      omega
    · simp [q]
theorem s_takeL {ks : List Lk} {s key md : Int} (h : ∀ x ∈ ks, x.s = s) : ∀ x ∈ takeL ks s key md, x.s = s := by
  unfold takeL
  split
  · intro x hx
    rcases List.mem_append.1 hx with hx | hx
    · exact h x hx
    · rw [List.mem_singleton] at hx; rw [hx]
  · intro x hx
    obtain ⟨j, hj⟩ := List.mem_iff_getElem?.1 hx
    rw [List.getElem?_modify] at hj
    obtain ⟨y, hy, e⟩ := Option.map_eq_some_iff.1 hj
    have := h y (List.mem_of_getElem? hy)
    rw [← e]
    split <;> exact this
theorem len_takeL (ks : List Lk) (s key md : Int) : (takeL ks s key md).length ≤ ks.length + 1 := by
  unfold takeL
  split <;> simp
theorem who_one {ks : List Lk} {s : Int} (h : ∀ x ∈ ks, x.s = s) (key md : Int) : whoL ks s key md = [] := by
  unfold whoL
  rw [List.map_eq_nil_iff, List.filter_eq_nil_iff]
  intro x hx e
  unfold inWay at e
  simp only [Bool.and_eq_true, bne_iff_ne] at e
  exact e.1.2 (h x hx)
theorem FOk.locks2 {N m : Nat} {ch : Int → List Int} {kp : Int → Int} {F : FS} (h : FOk N m ch kp F) {ks : List Lk} (hk : ∀ x ∈ F.ks, x.mode = 2 → x ∈ ks) : FOk N m ch kp { F with ks := ks } :=
  ⟨⟨h.g.pg, h.g.fit, h.g.lok, h.g.fuse, h.g.loose, h.g.lsn, h.g.six, h.g.p32, h.g.room⟩, ⟨h.t.rise, h.t.ids, h.t.most, h.t.ofs, h.t.inj, h.t.on⟩, ⟨h.c.last, h.c.next, fun x hx k hk2 r hr => by
    obtain ⟨a, b, lk, c1, c2, c3⟩ := h.c.sets x hx k hk2 r hr
    exact ⟨a, b, lk, hk lk c1 c2, c2, c3⟩, h.c.kept, h.c.cap⟩⟩
theorem read_ok {N m : Nat} {ch : Int → List Int} {kp : Int → Int} {F : FS} (h : FOk N m ch kp F) (n key hint : Int) :
    FOk N (m + 1) ch kp (takesF F n key 1 hint) ∧ (∀ k, vals (takesF F n key 1 hint) k = vals F k) ∧ (takesF F n key 1 hint).S.l.last = F.S.l.last ∧ (∀ k, recOf (takesF F n key 1 hint).S.l k = recOf F.S.l k) ∧ (takesF F n key 1 hint).S.frames = F.S.frames ∧
    has (cur F.S (placeOf key F.P)).2 key = (vals F key).isSome ∧ fromOf (cur F.S (placeOf key F.P)).2 key = (vals F key).getD 0 := by
  obtain ⟨p1, p2⟩ := placeOf_in key h.g.pg.pages
  obtain ⟨S', e1, e2, e3, e4⟩ := get_ok h hint p1 p2
  have hF : takesF F n key 1 hint = { F with ks := takeL F.ks n key 1, S := S' } := by unfold takesF; rw [e1]
  obtain ⟨l1, l2, l3, l4, l5⟩ := e3.ll
  rw [hF]
  have hr := PageV.rise (h.g.pg.curV p1 p2)
  refine ⟨FOk.locks2 e2 fun x hx h2 => mem_takeL (by omega) hx h2, fun k => vals_to h.g.pg.pages e3 k, (room_done (L := F.S.l) (L' := S'.l) ⟨l2, l3, l1⟩).2, fun k => recOf_done l2 l1 k, e3.frames, has_val hr key, ?_⟩
  rw [from_val hr]
  unfold vals
  cases val (cur F.S (placeOf key F.P)).2 key <;> rfl
end Go.Proofs.YtaplpeoikebedaaGreatDoor.StoreV
namespace Go.Proofs.YtaplpeoikebedaaGreatDoor.StoreW
open Go.RowKit See Mem Page PageB PageR PageL Disk DiskW RecD Dirty Dirty2 SysD SysM Wal WalF GoodD PoolG PoolS FlushG Fresh DirtD Pager StoreD PageM StoreF StoreG StoreH LockT LockU StoreI StoreJ StoreV BackD BackL
structure ChgR (N m : Nat) (ch : Int → List Int) (kp : Int → Int) (F : FS) (id key : Int) (nv : Option Int) (F' : FS) : Prop where
  ok : FOk N (m + 1) (updc ch id ((F.S.l.last + 1) :: ch id)) kp F'
  vals_ : ∀ k, vals F' k = if k = key then nv else vals F k
  rew : undoV F'.S.l (F.S.l.last + 1) (vals F') = vals F
  old : ∀ n r, recOf F.S.l n = some r → recOf F'.S.l n = some r
  new : ∃ r, recOf F'.S.l (F.S.l.last + 1) = some r
  last : F'.S.l.last = F.S.l.last + 1
  same : F'.P = F.P ∧ F'.sess = F.sess ∧ F'.most = F.most ∧ F'.of = F.of ∧ F'.free = F.free - 2 ∧ F'.S.frames = F.S.frames
  has_ : thas F'.ts id = true
theorem page_vals {N m : Nat} {ch : Int → List Int} {kp : Int → Int} {F : FS} (h : FOk N m ch kp F) (key : Int) : has (cur F.S (placeOf key F.P)).2 key = (vals F key).isSome ∧ fromOf (cur F.S (placeOf key F.P)).2 key = (vals F key).getD 0 := by
  obtain ⟨p1, p2⟩ := placeOf_in key h.g.pg.pages
  have hr := PageV.rise (h.g.pg.curV p1 p2)
  refine ⟨has_val hr key, ?_⟩
  rw [from_val hr]
  rfl
theorem chg_set {N m : Nat} {ch : Int → List Int} {kp : Int → Int} {F F1 : FS} {id key : Int} {has : Bool} {new : Int} (hl : ∀ n, recOf F1.S.l n = recOf F.S.l n) (hlast : F1.S.l.last = F.S.l.last) (hv : ∀ k, vals F1 k = vals F k) (hs : F1.P = F.P ∧ F1.sess = F.sess ∧ F1.most = F.most ∧ F1.of = F.of ∧ F1.free = F.free ∧ F1.S.frames = F.S.frames) (hid : thas F1.ts id = true) (hr : Rising (kvT F1.ts))
    (hok : FOk N (m + 1) (updc ch id ((F1.S.l.last + 1) :: ch id)) kp (setF F1 id key (vals F key).isSome ((vals F key).getD 0) has new)) (hvs : ∀ k, vals (setF F1 id key (vals F key).isSome ((vals F key).getD 0) has new) k = if k = key then (if has then some new else none) else vals F1 k) :
    ChgR N m ch kp F id key (if has then some new else none) (setF F1 id key (vals F key).isSome ((vals F key).getD 0) has new) := by
  obtain ⟨s1, s2, s3, s4, s5, s6⟩ := hs
  have hL : (setF F1 id key (vals F key).isSome ((vals F key).getD 0) has new).S.l = (addRec F1.S (recSet (tget F1.ts id) F1.P key (vals F key).isSome ((vals F key).getD 0) has new)).l := (chg_l _ _).1
  have hR := set_rew (F := F1) (id := id) (key := key) (had := (vals F key).isSome) (old := (vals F key).getD 0) (has := has) (new := new) (by rw [hv]) (by
    rw [hv]
    cases vals F key <;> rfl) (fun k hk => by rw [hvs, if_neg hk])
  rw [hlast] at hok hR
  refine ⟨hok, fun k => ?_, ?_, fun n r hn => ?_, ⟨_, by rw [hL, ← hlast]; exact addRec_new _ _⟩, ?_, ⟨s1, s2, s3, s4, ?_, ?_⟩, ?_⟩
  · rw [hvs]
    split
    · rfl
    · exact hv k
  · rw [hR]; funext k; exact hv k
  · rw [hL]
    exact addRec_rec (by rw [hl]; exact hn)
  · rw [hL, addRec_last, hlast]
  · show F1.free - 2 = _
    rw [s5]
  · rw [← s6]
    exact (chg_l _ _).2
  · show thas (tnote F1.ts id _ _) id = true
    rw [thas_ids (tnote_rise hr), ids_tnote, ← thas_ids hr]
    exact hid
theorem takes_same {N m : Nat} {ch : Int → List Int} {kp : Int → Int} {F : FS} (h : FOk N m ch kp F) (n key md hint : Int) : (∀ k, recOf (takesF F n key md hint).S.l k = recOf F.S.l k) ∧ (takesF F n key md hint).S.frames = F.S.frames := by
  obtain ⟨p1, p2⟩ := placeOf_in key h.g.pg.pages
  obtain ⟨S', e1, e2, e3, e4⟩ := get_ok h hint p1 p2
  have hF : (takesF F n key md hint).S = S' := by unfold takesF; rw [e1]
  obtain ⟨l1, l2, l3, l4, l5⟩ := e3.ll
  rw [hF]
  exact ⟨fun k => recOf_done l2 l1 k, e3.frames⟩
theorem chg_put {N m : Nat} {ch : Int → List Int} {kp : Int → Int} {F : FS} {own : Int → Int} {n key v hint : Int} (h : FOk N m ch kp F) (hk : KOk own F.ks) (he : own key = n) (hid : thas F.ts (F.of n) = true) (hkey : 0 ≤ key ∧ key < 1048576) (hv : is64 v) (hfr : 2 ≤ F.free) (hnf : (vals F key).isSome = true ∨ fullB (takesF F n key 2 hint) key = false) :
    ∃ F', putR F n key v hint = (F', (vals F key).getD 0, (vals F key).isSome, none) ∧ ChgR N m ch kp F (F.of n) key (some v) F' ∧ KOk own F'.ks ∧ F'.ks = takeL F.ks n key 2 := by
  obtain ⟨t1, t2, t3, t4, t5, t6, t7, t8, t9⟩ := takes_ok h hk he hkey hint
  obtain ⟨p1, p2⟩ := placeOf_in key h.g.pg.pages
  have hcur := t5 _ p1 p2
  obtain ⟨v1, v2⟩ := page_vals h key
  obtain ⟨q1, q2⟩ := takes_same h n key 2 hint
  obtain ⟨x, x1, x2, x3, x4⟩ := t8
  have hP : (takesF F n key 2 hint).P = F.P := rfl
  have hp := put_ok (F := takesF F n key 2 hint) (id := F.of n) (key := key) (v := v) t2 hid t6 hkey hv ⟨x, x1, x2, x3, by rw [x4]; rfl⟩ (by show 2 ≤ F.free; omega) (by
    rw [hP, hcur, v1]
    exact hnf)
  rw [hP, hcur, v1, v2] at hp
  obtain ⟨_, _, _, h4, h5⟩ := hp
  refine ⟨setF (takesF F n key 2 hint) (F.of n) key (vals F key).isSome ((vals F key).getD 0) true v, ?_, ?_, t3, rfl⟩
  · unfold putR
    rw [v1, v2, if_neg, if_neg (by omega)]
    rintro ⟨c1, c2⟩
    rcases hnf with h | h
    · rw [h] at c1; cases c1
    · rw [h] at c2; cases c2
  · have := chg_set (F := F) (F1 := takesF F n key 2 hint) (id := F.of n) (key := key) (has := true) (new := v) q1 t7 t4 ⟨rfl, rfl, rfl, rfl, rfl, q2⟩ hid t2.t.rise h4 (fun k => by rw [h5 k]; simp)
    exact this
end Go.Proofs.YtaplpeoikebedaaGreatDoor.StoreW
namespace Go.Proofs.YtaplpeoikebedaaGreatDoor.FwdX
open Go.RowKit Go.Maps YtaplpeoikebedaaGreatDoorW.PrintWords YtaplpeoikebedaaGreatDoorW.PrintLast YtaplpeoikebedaaGreatDoorW.PrintMore
open See Mem Page PageB PageR PageL Disk DiskN DiskW RecD Rec Dirty Wal WalF SysD SysM PoolG Pager StoreD PageM StoreF StoreG StoreI StoreJ PageO HeldT TransT LockT LockU SpaceT WaitT FwdM FwdP FwdC FwdF FwdT FwdB FwdS FwdU StoreW
attribute [local go_sem] max2_imax min2_imin max_two min_two
end Go.Proofs.YtaplpeoikebedaaGreatDoor.FwdX
namespace Go.Proofs.YtaplpeoikebedaaGreatDoor.BackE
open Go.RowKit Go.Maps YtaplpeoikebedaaGreatDoorW.PrintWords YtaplpeoikebedaaGreatDoorW.PrintLast YtaplpeoikebedaaGreatDoorW.PrintMore
open See Mem Clone Go.Proofs.YtaplpeoikebedaaGreatDoor.Cell Page PageB PageR PageL Disk Dirty Pool2 RecD Wal PoolG SysD SysM StoreD StoreF StoreI StoreJ StoreW TransT LockT LockU SpaceT WaitT FwdM FwdP FwdC FwdT FwdU FwdW FwdX Pager BackM
attribute [local go_sem] max2_imax min2_imin max_two min_two
theorem eql_nil (x : Addr) (w : World) : (binOp .eql 37 .nilIface (.iface 333 (.pointer (some x)))).run Tryz.prog w = .ok (.bool false) w := by kernel_rfl
theorem ends_nil (a : Nat → Addr) (p : Value) (n hint v : Int) (is : Bool) (w : World) (hs : SentsAll w a) :
    Calls Tryz.prog 87 #[p, .int .i64 n, .int .i64 hint, .int .i64 v, .bool is, .nilIface] w fun e w' => e = .returned (.tuple #[.int .i64 v, .bool is, .nilIface]) ∧ Below w.heap.size w w' := by
  have hg11 : w.cell? ⟨12, 0, none⟩ = some (.iface 333 (.pointer (some (a 11)))) := hs.cell 11 (by decide)
  have hg8 : w.cell? ⟨2, 0, none⟩ = some (.iface 333 (.pointer (some (a 8)))) := hs.cell 8 (by decide)
  have he11 := eql_nil (a 11) w
  have he8 := eql_nil (a 8) w
  clear hs
  go_enter Tryz.func87, Tryz.ntmps87
  go_wp2_with fail
  exact bodyPost_ret (v := .tuple #[.int .i64 v, .bool is, .nilIface]) (by simp [results, Tryz.results87, go_sem]) rfl ⟨rfl, Below.refl _ _⟩
theorem bput_calls (a : Nat → Addr) (M : Nat → Prop) (bp bm sp lp pp dp qp mp : Nat) (blocks frames : Int) (B : BSt) (n key v hint : Int) (N m : Nat) (ch : Int → List Int) (kp : Int → Int) (own : Int → Int) (F' : FS) (old : Int) (had : Bool) (w : World) (h : BkM M w bp bm sp lp pp dp qp mp blocks frames B) (hR : putR B.F n key v hint = (F', old, had, none)) (hok : FOk N m ch kp B.F) (hk : KOk own B.F.ks) (he : own key = n) (hs : SentsAll w a) (hO : OutAll M a) (h0 : 0 ≤ n) (h1 : n < B.F.sess) (h2 : B.F.sess ≤ 1000)
    (hx : thas B.F.ts (B.F.of n) = true) (hk0 : 0 ≤ key) (hk1 : key < 1048576) (hl : B.F.ks.length ≤ 80000) (hm : m ≤ 30000) (hh0 : -9223372036854775808 ≤ hint) (hh1 : hint ≤ 9223372036854775807) (hv : is64 v) :
    Calls Tryz.prog 33 #[.pointer (some ⟨bp, 0, none⟩), .int .i64 n, .int .i64 key, .int .i64 v, .int .i64 hint] w fun e w' => e = .returned (.tuple #[.int .i64 old, .bool had, .nilIface]) ∧ BkPost M bp bm sp lp pp dp qp mp blocks frames { B with F := F' } w w' := by
  obtain ⟨R, sl, h⟩ := h
  have HP := Aside0.mk (put_calls a R sp lp pp dp qp mp blocks frames B.F n key v hint N m ch kp own w h.f hok hk he hs (OutAll.sub (M' := R) hO fun k hk => (h.r k hk).1) h0 h1 h2 hx hk0 hk1 hl hm hh0 hh1 hv)
  unfold PutPost at HP
  rw [hR] at HP
  have HH := Aside0.mk h
  have HS := Aside0.mk hs
  have HO := Aside0.mk hO
  obtain ⟨c0, c1⟩ := h.cells
  have hbl := heap_lt h.box
  clear h hR hok hk he hs hO hx hl hm hv h0 h1 h2
  go_enter Tryz.func33, Tryz.ntmps33
  go_wp2_with fail
  refine HP.out.mono ?_
  rintro e w1 ⟨rfl, hp⟩
  have HP1 := Aside0.mk (HH.out.fw hp)
  have HS1 := Aside0.mk (SentsAll.kp HS.out HP1.out.2 HO.out)
  clear hp c0 c1 hbl
  rw [show errv a none = .nilIface from rfl]
  go_wp2_with fail
  refine (ends_nil a _ n hint old had w1 HS1.out).mono ?_
  rintro e w2 ⟨rfl, hb⟩
  have HP2 := Aside0.mk (BkPost.step HP1.out hb)
  clear hb
  go_wp2_with fail
  exact bodyPost_ret (v := .tuple #[.int .i64 old, .bool had, .nilIface]) (by simp [results, Tryz.results33, go_sem]) rfl ⟨rfl, HP2.out⟩
theorem bget_calls (a : Nat → Addr) (M : Nat → Prop) (bp bm sp lp pp dp qp mp : Nat) (blocks frames : Int) (B : BSt) (n key hint : Int) (N m : Nat) (ch : Int → List Int) (kp : Int → Int) (w : World) (h : BkM M w bp bm sp lp pp dp qp mp blocks frames B) (hok : FOk N m ch kp B.F) (hk : whoL B.F.ks n key 1 = []) (hs : SentsAll w a) (hO : OutAll M a) (h0 : 0 ≤ n) (h1 : n < B.F.sess) (h2 : B.F.sess ≤ 1000)
    (hx : thas B.F.ts (B.F.of n) = true) (hk0 : 0 ≤ key) (hk1 : key < 1048576) (hl : B.F.ks.length ≤ 80000) (hm : m ≤ 30000) (hh0 : -9223372036854775808 ≤ hint) (hh1 : hint ≤ 9223372036854775807) :
    Calls Tryz.prog 36 #[.pointer (some ⟨bp, 0, none⟩), .int .i64 n, .int .i64 key, .int .i64 hint] w fun e w' => e = .returned (.tuple #[.int .i64 (fromOf (cur B.F.S (placeOf key B.F.P)).2 key), .bool (has (cur B.F.S (placeOf key B.F.P)).2 key), .nilIface]) ∧ BkPost M bp bm sp lp pp dp qp mp blocks frames { B with F := takesF B.F n key 1 hint } w w' := by
  obtain ⟨R, sl, h⟩ := h
  have HP := Aside0.mk (get1_calls a R sp lp pp dp qp mp blocks frames B.F n key hint N m ch kp w h.f hok hk hs (OutAll.sub (M' := R) hO fun k hk => (h.r k hk).1) h0 h1 h2 hx hk0 hk1 hl hm hh0 hh1)
  obtain ⟨old, hold⟩ : ∃ o, fromOf (cur B.F.S (placeOf key B.F.P)).2 key = o := ⟨_, rfl⟩
  obtain ⟨had, hhad⟩ : ∃ b, has (cur B.F.S (placeOf key B.F.P)).2 key = b := ⟨_, rfl⟩
  rw [hold, hhad] at HP ⊢
  have HH := Aside0.mk h
  have HS := Aside0.mk hs
  have HO := Aside0.mk hO
  obtain ⟨c0, c1⟩ := h.cells
  have hbl := heap_lt h.box
  clear h hok hk hs hO hx hl hm h0 h1 h2 hold hhad
  go_enter Tryz.func36, Tryz.ntmps36
  go_wp2_with fail
  refine HP.out.mono ?_
  rintro e w1 ⟨rfl, hp⟩
  have HP1 := Aside0.mk (HH.out.fw hp)
  have HS1 := Aside0.mk (SentsAll.kp HS.out HP1.out.2 HO.out)
  clear hp c0 c1 hbl
  go_wp2_with fail
  refine (ends_nil a _ n hint old had w1 HS1.out).mono ?_
  rintro e w2 ⟨rfl, hb⟩
  have HP2 := Aside0.mk (BkPost.step HP1.out hb)
  clear hb
  go_wp2_with fail
  exact bodyPost_ret (v := .tuple #[.int .i64 old, .bool had, .nilIface]) (by simp [results, Tryz.results36, go_sem]) rfl ⟨rfl, HP2.out⟩
end Go.Proofs.YtaplpeoikebedaaGreatDoor.BackE
namespace Go.Proofs.YtaplpeoikebedaaGreatDoor.First18
open Go.RowKit Go.Maps YtaplpeoikebedaaGreatDoorW.PrintWords YtaplpeoikebedaaGreatDoorW.PrintLast YtaplpeoikebedaaGreatDoorW.PrintMore
open See Mem Page Disk DiskN RecD Dirty Pool2 Pool3 Wal Fresh SysD SysM StoreD StoreF StoreI StoreJ RoomD TransT LockT LockU SpaceT WaitT FwdM FwdP FwdC FwdE FwdT FwdN FwdO FwdB FwdG First17 RefN BackA BackM BackW BackV BackU BackB BackN
attribute [local go_sem] max2_imax min2_imin max_two min_two
end Go.Proofs.YtaplpeoikebedaaGreatDoor.First18
