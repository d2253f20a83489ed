/- Joined texts: RefN, PageQ, PageV. No condition but what each says. -/
import Derived.Test.YtaplpeoikebedaaGreatDoorV6
import Derived.Deep.RegionLaw
import Derived.Deep.DeepCutAuto
import Derived.Test.YtaplpeoikebedaaGreatDoorV28
set_option maxHeartbeats 8000000
set_option maxRecDepth 100000
set_option linter.unusedVariables false
set_option linter.unusedSimpArgs false
namespace Go.Proofs.YtaplpeoikebedaaGreatDoor.RefN
open Go.RowKit YtaplpeoikebedaaGreatDoorW.PrintWords YtaplpeoikebedaaGreatDoorW.PrintLast YtaplpeoikebedaaGreatDoorW.PrintMore
open See Mem Clone Go.Proofs.YtaplpeoikebedaaGreatDoor.Cell Page PageB PageR Disk DiskN
attribute [local go_sem] max2_imax min2_imin max_two min_two
theorem info_vers : (Tryz.prog.info? 88).map (fun i => (i.zero, i.size, i.bytes)) = some (some (.slice none 0 0), 1, 24) := by kernel_rfl
theorem news_one (W : World) (b : Nat) (hb : W.heap.size = b) (u : Value) (e : Nat) : ∀ j x, [u][j]? = some x → (W.alloc (.cells #[u] e)).cell? ((⟨b, 0, none⟩ : Addr).add j) = some x := by
  subst hb
  intro j x hx
  exact World.news_of_block (heap_alloc_new W _) j x hx
theorem one_vers (b : Nat) : ∀ u ∈ [Value.slice (some ⟨b, 0, none⟩) 1 1], u.oneCell' = true := by
  intro u hu
  simp at hu
  subst hu
  rfl
theorem len24v {n : Nat} (h : n ≤ 100000) : (n + 1) * 24 ≤ 140737488355328 := by omega
theorem rdisk_calls (n : Int) (w : World) :
    Calls Tryz.prog 80 #[.int .i64 n] w fun e w' => ∃ p, e = .returned (.pointer (some ⟨p, 0, none⟩)) ∧ Below w.heap.size w w' := by
  obtain ⟨i0, hi, hzz⟩ := Option.map_eq_some_iff.1 info_vers
  simp only [Prod.mk.injEq] at hzz
  obtain ⟨hz0, hz1, hz2⟩ := hzz
  obtain ⟨m, hm⟩ : ∃ m, imin (imax n 1) 200 = m := ⟨_, rfl⟩
  have hm1 : 1 ≤ m ∧ m ≤ 200 := by rw [← hm, imin_eq, imax_eq]; omega
  obtain ⟨m1, m2⟩ := hm1
  have HI0 := Aside0.mk (And.intro hi (And.intro hz0 (And.intro hz1 hz2)))
  clear hi hz0 hz1 hz2
  go_enter Tryz.func80, Tryz.ntmps80
  go_wp2_with fail
  go_loopg [4] (m.toNat + 1) (fun kq v4 w' => ∃ (i : Int) (sl : Value) (xs : List Value), v4 = .int .i64 i ∧ Aside0 (0 ≤ i ∧ i ≤ m ∧ (kq : Int) = m + 1 - i ∧ xs.length = i.toNat) ∧ Aside0 (w'.heap[w.heap.size]? = some (.cells #[sl, .int .i64 (-1), .bool false] 216 (0, 0))) ∧ Aside0 (w'.ownsRow (w.heap.size + 1) 88 1 sl xs.length xs) ∧ Aside0 (w.heap.size + 1 ≤ w'.heap.size) ∧ Aside0 (Below w.heap.size w w'))
  case atStart =>
    refine ⟨0, .slice none 0 0, [], rfl, ⟨by omega, by omega, by omega, rfl⟩, ⟨?_⟩, ⟨World.ownsRow_nil _ _ _ _⟩, ⟨by simp⟩, ⟨by repeat (first | exact Below.refl _ _ | apply below_drew1 | apply below_alloc)⟩⟩
    show (w.heap.push _)[w.heap.size]? = _
    exact Array.getElem?_push_size
  case round =>
    obtain ⟨i, sl, xs, rfl, HI, HBX, HRW, HSZ0, HB⟩ := hrel
    have hi0 : 0 ≤ i := HI.out.1
    by_cases hlt : i < m
    · obtain ⟨hi, hz0, hz1, hz2⟩ := HI0.out
      have hc0 : wr.cell? ⟨w.heap.size, 0, none⟩ = some sl := by simp [World.cell?, HBX.out]
      have hf0 : wr.frozen? ⟨w.heap.size, 0, none⟩ = false := by simp [World.frozen?, HBX.out]
      have hsz := HSZ0.out
      have hsz1 : w.heap.size < wr.heap.size := hsz
      have hmk := make256
      have hsz2 : w.heap.size < wr.heap.size + 1 := by omega
      have hsz3 : w.heap.size < wr.heap.size + 1 + 1 := by omega
      have hn5 : xs.length ≤ 100000 := by have := HI.out; omega
      go_wp2_with fail
      go_region_law (first
        | (refine step_append_lies _ (by rfl) _ _ 214 (by rfl) (w.heap.size + 1) 88 i0 (.slice none 0 0) 1 24 Tryz.underlying214 hi hz0 hz1 hz2 rfl (by decide) _ xs.length xs (by rfl) (by exact ow_below HRW.out (by repeat (first | exact Below.refl _ _ | apply below_drew1 | apply below_alloc))) ⟨wr.heap.size + 2, 0, none⟩ 1 1 [.slice (some ⟨wr.heap.size + 1, 0, none⟩) 1 1] (by rfl) rfl (by exact news_one _ _ (by simp) _ _) (by exact one_vers _) (by decide) (by exact len_ok hn5) (by exact len24v hn5) (by simp; omega) (wr.heap.size + 3) (by simp) ?_; intro g2 cap2 w3 hown hgr hor hlt3; have hblk : w3.heap[w.heap.size]? = wr.heap[w.heap.size]? := grown_blk hgr (by exact (show Below wr.heap.size wr _ by repeat (first | exact Below.refl _ _ | apply below_drew1 | apply below_alloc)).block _ hsz1) (by simp; omega) (fun k hk => by have := (ow_block HRW.out hk).1; omega); have hs1 : w3.cell? ⟨w.heap.size, 0, none⟩ = some sl := (World.cell?_of_block (w := wr) (a := ⟨w.heap.size, 0, none⟩) hblk).trans hc0; have hs2 : w3.frozen? ⟨w.heap.size, 0, none⟩ = false := (World.frozen?_of_block (w := wr) (a := ⟨w.heap.size, 0, none⟩) hblk).trans hf0))
      all_goals
        have HSZ := Aside0.mk (show wr.heap.size + 2 ≤ w3.heap.size by have := hgr.size; simp at this; omega)
        have HO3 := Aside0.mk (show w3.ownsRow (w.heap.size + 1) 88 1 (.slice (some ⟨g2, 0, none⟩) (xs.length + 1) cap2) (xs.length + 1) (xs ++ [.slice (some ⟨wr.heap.size + 1, 0, none⟩) 1 1]) from hown)
        have HB3 := Aside0.mk (show Below w.heap.size w w3 from (HB.out.trans (Below.mono (show Below wr.heap.size wr _ by repeat (first | exact Below.refl _ _ | apply below_drew1 | apply below_alloc)) (by omega))).grown (w := _) hgr (by simp; omega) (fun k hk => by have := (ow_block HRW.out hk).1; omega))
        have HBK := Aside0.mk (hblk.trans HBX.out)
        clear hown hgr hor hlt3 hblk hi hz0 hz1 hz2 hmk hc0 hf0
        go_wp2_with fail
        go_roundg (gk - 1)
        case measure => have := HI.out; omega
        case rel =>
          refine ⟨i + 1, .slice (some ⟨g2, 0, none⟩) (xs.length + 1) cap2, xs ++ [.slice (some ⟨wr.heap.size + 1, 0, none⟩) 1 1], rfl, ⟨by omega, by omega, by have := HI.out; omega, by rw [List.length_append]; have := HI.out; simp; omega⟩, ⟨?_⟩, ⟨?_⟩, ⟨?_⟩, ⟨HB3.out.setCell (Nat.le_refl _) _⟩⟩
          · rw [heap_setCell_same _ _ _ _ _ _ HBK.out]
            simp
          · rw [List.length_append]
            exact ow_move HO3.out (fun k hk => Below.heap_setCell _ _ _ _ (by have := (ow_block HO3.out hk).1; show k ≠ w.heap.size; omega))
          · have := HSZ.out
            simp [World.setCell]
            omega
    · go_wp2_with fail
      go_ret
      first
        | exact ⟨⟨w.heap.size, rfl⟩, HB.out⟩
        | exact ⟨w.heap.size, rfl, HB.out⟩
        | exact HB.out
theorem rlog_calls (dp : Nat) (f b s e : Int) (w : World) :
    Calls Tryz.prog 81 #[.pointer (some ⟨dp, 0, none⟩), .int .i64 f, .int .i64 b, .int .i64 s, .int .i64 e] w fun q w' => q = .returned (.pointer (some ⟨w.heap.size, 0, none⟩)) ∧ w'.heap[w.heap.size]? = some (.cells #[.pointer (some ⟨dp, 0, none⟩), .int .i64 f, .int .i64 b, .int .i64 s, .int .i64 e, .slice none 0 0, .int .i64 s] 218 (0, 0)) ∧ Below w.heap.size w w' := by
  go_enter Tryz.func81, Tryz.ntmps81
  go_wp2_with fail
  go_ret
  first
    | exact ⟨rfl, heap_alloc_new _ _, below_alloc (Below.refl _ _) _⟩
    | exact ⟨heap_alloc_new _ _, below_alloc (Below.refl _ _) _⟩
    | exact below_alloc (Below.refl _ _) _
    | trace_state
theorem rpool_calls (dp lp : Nat) (n : Int) (w : World) :
    Calls Tryz.prog 84 #[.pointer (some ⟨dp, 0, none⟩), .pointer (some ⟨lp, 0, none⟩), .int .i64 n] w fun q w' => q = .returned (.pointer (some ⟨w.heap.size, 0, none⟩)) ∧ Below w.heap.size w w' := by
  go_enter Tryz.func84, Tryz.ntmps84
  go_wp2_with fail
  go_ret
  first
    | exact ⟨rfl, below_alloc (Below.refl _ _) _⟩
    | exact below_alloc (Below.refl _ _) _
    | trace_state
theorem rspace_calls (n : Int) (w : World) :
    Calls Tryz.prog 140 #[.int .i64 n] w fun q w' => ∃ p, q = .returned (.pointer (some ⟨p, 0, none⟩)) ∧ Below w.heap.size w w' := by
  go_enter Tryz.func140, Tryz.ntmps140
  go_wp2_with fail
  go_ret
  first
    | exact ⟨⟨_, rfl⟩, below_alloc (Below.refl _ _) _⟩
    | exact ⟨_, rfl, below_alloc (Below.refl _ _) _⟩
    | exact below_alloc (Below.refl _ _) _
    | trace_state
theorem rlast_calls (p : Nat) (w : World) (c3 : w.cell? ⟨p, 3, none⟩ = some (.int .i64 0)) (c5 : w.cell? ⟨p, 5, none⟩ = some (.slice none 0 0)) :
    Calls Tryz.prog 196 #[.pointer (some ⟨p, 0, none⟩)] w fun e w' => e = .returned (.int .i64 0) ∧ Below w.heap.size w w' := by
  go_enter Tryz.func196, Tryz.ntmps196
  go_wp2_with fail
  go_quiet (fail)
  go_wp2_with fail
  go_ret
  exact ⟨by simp, by repeat (first | exact Below.refl _ _ | apply pw_below_drewN | apply below_drew1)⟩
theorem rroom_calls (p : Nat) (b : Int) (w : World) (hb : 0 ≤ b ∧ b ≤ 100) (c2 : w.cell? ⟨p, 2, none⟩ = some (.int .i64 b)) (c3 : w.cell? ⟨p, 3, none⟩ = some (.int .i64 0)) (c5 : w.cell? ⟨p, 5, none⟩ = some (.slice none 0 0)) :
    Calls Tryz.prog 141 #[.pointer (some ⟨p, 0, none⟩)] w fun e w' => ∃ r : Int, e = .returned (.int .i64 r) ∧ Below w.heap.size w w' := by
  have HL := Aside0.mk (fun (V : World) (hb : Below w.heap.size w V) => rlast_calls p V (pw_cell_below hb c3) (pw_cell_below hb c5))
  obtain ⟨q1, q2⟩ := hb
  have hw1 : IntKind.i64.wrap (6 * b) = 6 * b := IntWalk.i64_in _ (by omega)
  clear c3
  go_enter Tryz.func141, Tryz.ntmps141
  go_wp2_with fail
  go_region_held3 (fun w' => w'.cell? ⟨p, 2, none⟩ = some (.int .i64 b) ∧ w'.cell? ⟨p, 5, none⟩ = some (.slice none 0 0))
    (refine ⟨?_, ?_⟩ <;> (first | go_keep | exact hk1 | exact hk2))
    (first | (go_at_call 196; refine (HL.out _ (by repeat (first | exact Below.refl _ _ | apply below_drew1))).mono ?_; rintro e w1 ⟨rfl, hb⟩; have hk1 : w1.cell? ⟨p, 2, none⟩ = some (.int .i64 b) := pw_cell_below hb c2; have hk2 : w1.cell? ⟨p, 5, none⟩ = some (.slice none 0 0) := pw_cell_below hb c5))
  have HB := Aside0.mk (show Below w.heap.size w w1 from ⟨hb.os, hb.tape, hb.output, hb.size, hb.block⟩)
  clear hb
  go_wp2_with fail
  go_ret
  exact ⟨_, rfl, HB.out⟩
theorem rseen_calls (p o : Nat) (w : World) (c : w.cell? ⟨p, o + 1, none⟩ = some (.int .i64 0)) (f : w.frozen? ⟨p, o + 1, none⟩ = false) :
    Calls Tryz.prog 142 #[.pointer (some ⟨p, o, none⟩), .int .i64 0] w fun e w' => (∃ v, w' = w.setCell ⟨p, o + 1, none⟩ v) ∧ ∃ v, e = .returned v := by
  go_enter Tryz.func142, Tryz.ntmps142
  go_wp2_with fail
  go_end0
  first
    | exact ⟨⟨_, rfl⟩, _, rfl⟩
    | exact ⟨_, rfl⟩
    | trace_state
theorem cellx {w : World} {b : Nat} {cs : Array Value} {t : Nat} (h : w.heap[b]? = some (.cells cs t (0, 0))) {i : Nat} {v : Value} (hv : cs[i]? = some v) : w.cell? ⟨b, i, none⟩ = some v ∧ w.frozen? ⟨b, i, none⟩ = false := by
  refine ⟨?_, ?_⟩ <;> simp [World.cell?, World.frozen?, h, hv]
theorem cfg4 {w : World} {b : Nat} {x0 x1 x2 x3 : Value} (h : w.heap[b]? = some (.cells #[x0, x1, x2, x3] 31 (0, 0))) :
    w.cell? ⟨b, 0, none⟩ = some x0 ∧ w.cell? ⟨b, 1, none⟩ = some x1 ∧ w.cell? ⟨b, 2, none⟩ = some x2 ∧ w.cell? ⟨b, 3, none⟩ = some x3 := by
  refine ⟨?_, ?_, ?_, ?_⟩ <;> simp [World.cell?, h]
theorem mas7 {w : World} {b : Nat} {x : Value} (h : w.heap[b]? = some (.cells #[x, x, x, x, x, x, x] 84 (0, 0))) :
    w.cell? ⟨b, 0, none⟩ = some x ∧ w.cell? ⟨b, 1, none⟩ = some x ∧ w.cell? ⟨b, 2, none⟩ = some x ∧ w.cell? ⟨b, 3, none⟩ = some x ∧ w.cell? ⟨b, 4, none⟩ = some x ∧ w.cell? ⟨b, 5, none⟩ = some x ∧ w.cell? ⟨b, 6, none⟩ = some x := by
  refine ⟨?_, ?_, ?_, ?_, ?_, ?_, ?_⟩ <;> simp [World.cell?, h]
theorem rnew_calls (c0 c1 c2 c3 : Int) (dp pp : Nat) (l m : Value) (lp : Nat) (w : World) (hm : m = .agg #[.int .i64 0, .int .i64 0, .int .i64 0, .int .i64 0, .int .i64 0, .int .i64 0, .int .i64 0]) (hl : l = .pointer (some ⟨lp, 0, none⟩)) (hc1 : 0 ≤ c1 ∧ c1 ≤ 100) (k2 : w.cell? ⟨lp, 2, none⟩ = some (.int .i64 c1)) (k3 : w.cell? ⟨lp, 3, none⟩ = some (.int .i64 0)) (k5 : w.cell? ⟨lp, 5, none⟩ = some (.slice none 0 0)) :
    Calls Tryz.prog 83 #[.agg #[.int .i64 c0, .int .i64 c1, .int .i64 c2, .int .i64 c3], .pointer (some ⟨dp, 0, none⟩), l, .pointer (some ⟨pp, 0, none⟩), .int .i64 0, m] w fun e w' => ∃ q, e = .returned (.pointer (some ⟨q, 0, none⟩)) ∧ Below w.heap.size w w' := by
  subst hl
  subst hm
  have HR := Aside0.mk (fun (V : World) (hb : Below w.heap.size w V) => rroom_calls lp c1 V hc1 (pw_cell_below hb k2) (pw_cell_below hb k3) (pw_cell_below hb k5))
  clear k2 k3 k5
  obtain ⟨W, hW⟩ : ∃ W, (w.alloc (.cells #[.int .i64 c0, .int .i64 c1, .int .i64 c2, .int .i64 c3] 31)).alloc (.cells #[.int .i64 0, .int .i64 0, .int .i64 0, .int .i64 0, .int .i64 0, .int .i64 0, .int .i64 0] 84) = W := ⟨_, rfl⟩
  have HBW := Aside0.mk (show Below w.heap.size w W by rw [← hW]; repeat (first | exact Below.refl _ _ | apply below_alloc))
  have HCF := Aside0.mk (show W.heap[w.heap.size]? = some (.cells #[.int .i64 c0, .int .i64 c1, .int .i64 c2, .int .i64 c3] 31 (0, 0)) by
    rw [← hW]; exact (Below.heap_alloc _ _ _ (by show _ < (w.heap.push _).size; rw [Array.size_push]; omega)).trans (heap_alloc_new w _))
  have HMA := Aside0.mk (show W.heap[w.heap.size + 1]? = some (.cells #[.int .i64 0, .int .i64 0, .int .i64 0, .int .i64 0, .int .i64 0, .int .i64 0, .int .i64 0] 84 (0, 0)) by
    rw [← hW]
    have := heap_alloc_new (w.alloc (.cells #[.int .i64 c0, .int .i64 c1, .int .i64 c2, .int .i64 c3] 31)) (.cells #[.int .i64 0, .int .i64 0, .int .i64 0, .int .i64 0, .int .i64 0, .int .i64 0, .int .i64 0] 84)
    rw [show (w.alloc (.cells #[.int .i64 c0, .int .i64 c1, .int .i64 c2, .int .i64 c3] 31)).heap.size = w.heap.size + 1 from by show (w.heap.push _).size = _; rw [Array.size_push]] at this
    exact this)
  obtain ⟨a0, a1, a2, a3⟩ := cfg4 HCF.out
  obtain ⟨e0, e1, e2, e3, e4, e5, e6⟩ := mas7 HMA.out
  have HWE := Aside0.mk hW
  clear hW
  go_enter Tryz.func83, Tryz.ntmps83
  go_upto_region 1 with fail
  rw [HWE.out]
  go_cut [13] (fun v13 wx => ∃ (q : Nat), v13 = .pointer (some ⟨q, 0, none⟩) ∧ Aside0 (wx.cell? ⟨q, 10, none⟩ = some (.int .i64 0) ∧ wx.frozen? ⟨q, 10, none⟩ = false) ∧ Aside0 (w.heap.size ≤ q) ∧ Aside0 (Below w.heap.size w wx))
  case first =>
    go_region_law (first
      | (go_simp; go_at_call 141; refine (HR.out _ (by repeat (first | exact HBW.out | apply below_drew1 | apply below_alloc))).mono ?_; rintro e wa ⟨rr, rfl, hba⟩; obtain ⟨b0, b1, b2, b3⟩ := cfg4 ((hba.block _ (heap_lt HCF.out)).trans HCF.out); obtain ⟨f0, f1, f2, f3, f4, f5, f6⟩ := mas7 ((hba.block _ (heap_lt HMA.out)).trans HMA.out))
      | (go_simp; go_at_call 140; refine (rspace_calls rr _).mono ?_; rintro e wb ⟨pb, rfl, hbb⟩; have hbc := below_step hba hbb; obtain ⟨g0, g1, g2, g3⟩ := cfg4 ((hbc.block _ (heap_lt HCF.out)).trans HCF.out); obtain ⟨h0, h1, h2, h3, h4, h5, h6⟩ := mas7 ((hbc.block _ (heap_lt HMA.out)).trans HMA.out)))
    all_goals
      have hwb := below_step HBW.out (show Below W.heap.size W wb from ⟨hbc.os, hbc.tape, hbc.output, hbc.size, hbc.block⟩)
      have hws := hwb.size
      clear a0 a1 a2 a3 e0 e1 e2 e3 e4 e5 e6 b0 b1 b2 b3 f0 f1 f2 f3 f4 f5 f6 g0 g1 g2 g3 h0 h1 h2 h3 h4 h5 h6
      go_wp2_with fail
      go_meet
      exact ⟨_, rfl, ⟨cellx (heap_alloc_new _ _) rfl⟩, ⟨hws⟩, ⟨by repeat (first | exact hwb | apply below_drew1 | apply below_alloc)⟩⟩
  case rest =>
    obtain ⟨q, rfl, HQ, HQL, HB⟩ := hcut
    generalize wc = V at HQ HB ⊢
    clear a0 a1 a2 a3 e0 e1 e2 e3 e4 e5 e6
    go_wp2_with fail
    refine (rseen_calls q 9 _ HQ.out.1 HQ.out.2).mono ?_
    rintro e V2 ⟨⟨v, rfl⟩, v2, rfl⟩
    have HF := Aside0.mk (show Below w.heap.size w (V.setCell ⟨q, 10, none⟩ v) from HB.out.setCell HQL.out v)
    generalize V.setCell ⟨q, 10, none⟩ v = V3 at HF ⊢
    go_wp2_with fail
    go_ret
    first
      | exact ⟨⟨_, rfl⟩, HF.out⟩
      | exact ⟨_, rfl, HF.out⟩
end Go.Proofs.YtaplpeoikebedaaGreatDoor.RefN
namespace Go.Proofs.YtaplpeoikebedaaGreatDoor.PageQ
open Go.RowKit YtaplpeoikebedaaGreatDoorW.PrintWords YtaplpeoikebedaaGreatDoorW.PrintLast YtaplpeoikebedaaGreatDoorW.PrintMore
open See Mem Clone Go.Proofs.YtaplpeoikebedaaGreatDoor.Cell Page PageB PageR PageL Dirty Dirty2 SysD Rw Del Ins2 StoreD PageM PageO
attribute [local go_sem] max2_imax min2_imin max_two min_two
theorem eremove_calls (lsn : Int) (v : Value) (es : List (Int × Int)) (n : Int) (w : World) (hp : P2 w 169 v es) (hr : Rising es) :
    Calls Tryz.prog 186 #[.agg #[.int .i64 lsn, v], .int .i64 n] w fun e w' => ∃ v', e = .returned (.tuple #[.agg #[.int .i64 lsn, v'], .bool (has es n)]) ∧ P2 w' 169 v' (dropT es n) ∧ Below w.heap.size w w' := by
  have HP := Aside0.mk hp
  have HR := Aside0.mk hr
  have HFIND := Aside0.mk (fun (W : World) (hb : Below w.heap.size w W) => efind_calls lsn v es n W (hp.below hb) hr)
  obtain ⟨A, cap, hv, _⟩ := ow_slice hp.1
  obtain ⟨l, hl⟩ : ∃ l, es.length = l := ⟨_, rfl⟩
  have HL := Aside0.mk hl
  have hl5 : l ≤ 100000 := by rw [← hl]; exact hp.2
  rw [hl] at hv
  have hl' := hl
  clear hp hr hl
  subst hv
  obtain ⟨k, hk⟩ : ∃ k : Nat, pos es n = k := ⟨_, rfl⟩
  have HK := Aside0.mk hk
  cases hh : has es n with
  | false =>
    have HA := Aside0.mk (show dropT es n = es by unfold dropT; rw [hh]; rfl)
    have HFD' := Aside0.mk (fun (W : World) (hb : Below w.heap.size w W) => by have h := HFIND.out W hb; rw [hh, hk] at h; exact h)
    clear hh hk HFIND
    go_enter Tryz.func186, Tryz.ntmps186
    go_wp2_with fail
    refine (HFD'.out _ (by repeat (first | exact Below.refl _ _ | apply below_drew1 | apply below_alloc))).mono ?_
    rintro e w1 ⟨rfl, hb⟩
    have HB := Aside0.mk (below_step (show Below w.heap.size w ((w.alloc (.cells #[.int .i64 lsn, .slice A l cap] 74)).alloc (.cells #[.int .i64 0, .slice none 0 0] 74)) by repeat (first | exact Below.refl _ _ | apply below_alloc)) hb)
    have HBX := Aside0.mk (show w1.heap[w.heap.size]? = some (.cells #[.int .i64 lsn, .slice A l cap] 74 (0, 0)) from (hb.block w.heap.size (by show w.heap.size < ((w.heap.push _).push _).size; rw [Array.size_push, Array.size_push]; omega)).trans ((Below.heap_alloc _ _ _ (by show w.heap.size < (w.heap.push _).size; rw [Array.size_push]; omega)).trans (heap_alloc_new w _)))
    have HBR := Aside0.mk (show w1.heap[w.heap.size + 1]? = some (.cells #[.int .i64 0, .slice none 0 0] 74 (0, 0)) from (hb.block (w.heap.size + 1) (by simp)).trans (by have := heap_alloc_new (w.alloc (.cells #[.int .i64 lsn, .slice A l cap] 74)) (.cells #[.int .i64 0, .slice none 0 0] 74); simpa using this))
    obtain ⟨q0, q1, f0, f1⟩ := pg_cells HBX.out
    have hz1 : w.heap.size < w1.heap.size := heap_lt HBX.out
    clear hb
    go_wp2_with fail
    have HCL1 := Aside0.mk (fun (W : World) (hb : Below w1.heap.size w1 W) => clone_p2 HP.out HB.out hb)
    have HCL2 := Aside0.mk (fun (W : World) (hb : Below w1.heap.size w1 W) (hy : W.heap[w1.heap.size]? = some (.cells #[.int .i64 0, .slice none 0 0] 74 (0, 0))) => clone_p2_keep HP.out HB.out hb hy)
    rw [HL.out] at HCL1 HCL2
    go_region_law (first
      | (go_simp; go_at_call 146; refine (HCL2.out _ (by repeat (first | exact Below.refl _ _ | apply below_drew1 | apply below_alloc)) (by exact heap_alloc_new w1 _)).mono ?_; rintro e w2 ⟨A2, c2, rfl, hp2, hb2, hbo⟩; obtain ⟨o0, o1, g0, g1⟩ := pg_cells hbo; obtain ⟨k0, k1, l0, l1⟩ := pg_cells ((hb2.block _ hz1).trans HBX.out); have hlt2 := heap_lt hbo; have hlt3 := Nat.lt_of_lt_of_le hz1 hb2.size)
      | (go_simp; go_at_call 146; refine (HCL1.out _ (by repeat (first | exact Below.refl _ _ | apply below_drew1 | apply below_alloc))).mono ?_; rintro e w2 ⟨A2, c2, rfl, hp2, hb2⟩; obtain ⟨k0, k1, l0, l1⟩ := pg_cells ((hb2.block _ hz1).trans HBX.out); have hlt2 := Nat.lt_of_lt_of_le hz1 hb2.size))
    all_goals
      obtain ⟨r0, r1, s0, s1⟩ := pg_cells ((hb2.block _ (heap_lt HBR.out)).trans HBR.out)
      have hrl := heap_lt HBR.out
      have HP2 := Aside0.mk hp2
      have HB2 := Aside0.mk hb2
      have hrl2 := Nat.lt_of_lt_of_le hrl hb2.size
      have hne1 : w1.heap.size ≠ w.heap.size + 1 := by omega
      have hne2 : w.heap.size + 1 ≠ w1.heap.size := by omega
      have t1 : tag w2 (w.heap.size + 1) = 74 := tag_of ((hb2.block _ (heap_lt HBR.out)).trans HBR.out)
      have HBB := Aside0.mk (below_step HB.out hb2)
      clear k0 k1 l0 l1 hp2 q0 q1 f0 f1 hb2
      go_wp2_with fail
      refine bodyPost_ret (v := .tuple #[.agg #[.int .i64 lsn, .slice A2 l c2], .bool false]) ?_ ?_ ?_
      case refine_2 => rfl
      case refine_3 =>
        refine ⟨.slice A2 l c2, rfl, ⟨?_, ?_⟩, ?_⟩
        · rw [HA.out, HL.out]
          refine ow_frm (T := [74]) (M := fun _ => True) (ow_base HP2.out (Nat.zero_le _)) ?_ (by decide)
          repeat (first | exact Frm.refl _ _ _ | apply Frm.alloc | apply Frm.drew | refine Frm.set ?_ (fun _ => ⟨trivial, by first | (rw [t1]; exact List.mem_cons_self) | (rw [tag_of hbo]; exact List.mem_cons_self)⟩) _)
        · rw [HA.out, HL.out]; exact hl5
        · repeat (first | exact HBB.out | apply below_drew1 | apply below_alloc | refine Below.setCell ?_ (by first | omega | (show w.heap.size ≤ w.heap.size + 1; omega) | (show w.heap.size ≤ w1.heap.size; omega)) _)
      simp [results, Tryz.results186, go_sem, r0, r1, s0, s1, hne1, hne2, hrl2]
  | true =>
    have HA := Aside0.mk (show dropT es n = es.eraseIdx k by unfold dropT; rw [hh, hk]; rfl)
    have hkl : k < l := by
      obtain ⟨f, hf⟩ := pos_has hh
      rw [← hk, ← hl']
      exact (List.getElem?_eq_some_iff.1 hf).1
    have hlt5 : (dropT es n).length = l - 1 := by rw [HA.out, List.length_eraseIdx, if_pos (by rw [hl']; exact hkl), hl']
    have HLN := Aside0.mk hlt5
    have HFD' := Aside0.mk (fun (W : World) (hb : Below w.heap.size w W) => by have h := HFIND.out W hb; rw [hh, hk] at h; exact h)
    clear hh hk HFIND
    go_enter Tryz.func186, Tryz.ntmps186
    go_wp2_with fail
    refine (HFD'.out _ (by repeat (first | exact Below.refl _ _ | apply below_drew1 | apply below_alloc))).mono ?_
    rintro e w1 ⟨rfl, hb⟩
    have HB := Aside0.mk (below_step (show Below w.heap.size w ((w.alloc (.cells #[.int .i64 lsn, .slice A l cap] 74)).alloc (.cells #[.int .i64 0, .slice none 0 0] 74)) by repeat (first | exact Below.refl _ _ | apply below_alloc)) hb)
    have HBX := Aside0.mk (show w1.heap[w.heap.size]? = some (.cells #[.int .i64 lsn, .slice A l cap] 74 (0, 0)) from (hb.block w.heap.size (by show w.heap.size < ((w.heap.push _).push _).size; rw [Array.size_push, Array.size_push]; omega)).trans ((Below.heap_alloc _ _ _ (by show w.heap.size < (w.heap.push _).size; rw [Array.size_push]; omega)).trans (heap_alloc_new w _)))
    have HBR := Aside0.mk (show w1.heap[w.heap.size + 1]? = some (.cells #[.int .i64 0, .slice none 0 0] 74 (0, 0)) from (hb.block (w.heap.size + 1) (by simp)).trans (by have := heap_alloc_new (w.alloc (.cells #[.int .i64 lsn, .slice A l cap] 74)) (.cells #[.int .i64 0, .slice none 0 0] 74); simpa using this))
    obtain ⟨q0, q1, f0, f1⟩ := pg_cells HBX.out
    have hz1 : w.heap.size < w1.heap.size := heap_lt HBX.out
    clear hb
    go_wp2_with fail
    have HCL1 := Aside0.mk (fun (W : World) (hb : Below w1.heap.size w1 W) => clone_p2 HP.out HB.out hb)
    have HCL2 := Aside0.mk (fun (W : World) (hb : Below w1.heap.size w1 W) (hy : W.heap[w1.heap.size]? = some (.cells #[.int .i64 0, .slice none 0 0] 74 (0, 0))) => clone_p2_keep HP.out HB.out hb hy)
    rw [HL.out] at HCL1 HCL2
    go_region_law (first
      | (go_simp; go_at_call 146; refine (HCL2.out _ (by repeat (first | exact Below.refl _ _ | apply below_drew1 | apply below_alloc)) (by exact heap_alloc_new w1 _)).mono ?_; rintro e w2 ⟨A2, c2, rfl, hp2, hb2, hbo⟩; obtain ⟨o0, o1, g0, g1⟩ := pg_cells hbo; obtain ⟨k0, k1, l0, l1⟩ := pg_cells ((hb2.block _ hz1).trans HBX.out); have hlt2 := heap_lt hbo; have hlt3 := Nat.lt_of_lt_of_le hz1 hb2.size)
      | (go_simp; go_at_call 146; refine (HCL1.out _ (by repeat (first | exact Below.refl _ _ | apply below_drew1 | apply below_alloc))).mono ?_; rintro e w2 ⟨A2, c2, rfl, hp2, hb2⟩; obtain ⟨k0, k1, l0, l1⟩ := pg_cells ((hb2.block _ hz1).trans HBX.out); have hlt2 := Nat.lt_of_lt_of_le hz1 hb2.size))
    all_goals
      have t1 : tag w2 (w.heap.size + 1) = 74 := tag_of ((hb2.block _ (heap_lt HBR.out)).trans HBR.out)
      have hbr2 := (hb2.block _ (heap_lt HBR.out)).trans HBR.out
      have hrl := heap_lt HBR.out
      have hrl2 := Nat.lt_of_lt_of_le hrl hb2.size
      have HBB := Aside0.mk (below_step HB.out hb2)
      clear k0 k1 l0 l1 q0 q1 f0 f1
      first
        | (obtain ⟨wx, bo, HW, HBO⟩ : ∃ (wx : World) (bo : Nat), Aside0 (wx = (w2.setCell ⟨w1.heap.size, 0, none⟩ (.int .i64 lsn)).setCell ⟨w1.heap.size, 1, none⟩ (.slice A2 l c2)) ∧ Aside0 (bo = w1.heap.size) := ⟨_, _, ⟨rfl⟩, ⟨rfl⟩⟩
           have hpo : wx.heap[bo]? = some (.cells #[.int .i64 lsn, .slice A2 l c2] 74 (0, 0)) := by rw [HW.out, HBO.out]; exact heap_setCell_same _ _ _ _ _ _ (heap_setCell_same _ _ _ _ _ _ hbo)
           have hne : bo ≠ w.heap.size + 1 := by have := HBO.out; omega
           have hpr : wx.heap[w.heap.size + 1]? = some (.cells #[.int .i64 0, .slice none 0 0] 74 (0, 0)) := by rw [HW.out, Below.heap_setCell _ _ _ _ (by have := HBO.out; show w.heap.size + 1 ≠ w1.heap.size; omega), Below.heap_setCell _ _ _ _ (by have := HBO.out; show w.heap.size + 1 ≠ w1.heap.size; omega)]; exact hbr2
           have hfr : Frm [74] (fun _ => True) w2 wx := by rw [HW.out]; exact ((Frm.refl _ _ w2).set (fun _ => ⟨trivial, by rw [tag_of hbo]; exact List.mem_cons_self⟩) _).set (fun _ => ⟨trivial, by rw [tag_of hbo]; exact List.mem_cons_self⟩) _
           have hbw : Below w.heap.size w wx := by rw [HW.out]; exact (HBB.out.setCell (by show w.heap.size ≤ w1.heap.size; omega) _).setCell (by show w.heap.size ≤ w1.heap.size; omega) _
           rw [← HW.out, ← HBO.out])
        | (obtain ⟨wx, bo, HW, HBO⟩ : ∃ (wx : World) (bo : Nat), Aside0 (wx = w2.alloc (.cells #[.int .i64 lsn, .slice A2 l c2] 74)) ∧ Aside0 (bo = w2.heap.size) := ⟨_, _, ⟨rfl⟩, ⟨rfl⟩⟩
           have hpo : wx.heap[bo]? = some (.cells #[.int .i64 lsn, .slice A2 l c2] 74 (0, 0)) := by rw [HW.out, HBO.out]; exact heap_alloc_new _ _
           have hne : bo ≠ w.heap.size + 1 := by have := HBO.out; omega
           have hpr : wx.heap[w.heap.size + 1]? = some (.cells #[.int .i64 0, .slice none 0 0] 74 (0, 0)) := by rw [HW.out]; exact (Below.heap_alloc _ _ _ hrl2).trans hbr2
           have hfr : Frm [74] (fun _ => True) w2 wx := by rw [HW.out]; exact (Frm.refl _ _ w2).alloc _
           have hbw : Below w.heap.size w wx := by rw [HW.out]; exact below_alloc HBB.out _
           rw [← HW.out, ← HBO.out])
    all_goals
      have HROW := Aside0.mk (ow_frm (T := [74]) (ow_base hp2 (Nat.le_trans HB.out.size (Nat.le_refl _))) hfr (by decide))
      have HBW := Aside0.mk hbw
      have HPR := Aside0.mk hpr
      have HPO := Aside0.mk hpo
      obtain ⟨o0', o1', g0', g1'⟩ := pg_cells hpo
      obtain ⟨g, cg, hgv, _, _⟩ := HROW.out.form (by omega)
      injection hgv with hgv1 hgv2 hgv3
      subst hgv1
      clear hp2 hb2 hfr hbw hpr hpo hbr2 t1 hgv2 hgv3
      have hbl := HROW.out
      obtain ⟨_, cg2, hgc⟩ := ow_block hbl (show (Value.slice (some ⟨g, 0, none⟩) l c2).ownBlock = some g from rfl)
      have hgo : g ≠ bo := fun e => by
        have h1 := HPO.out
        rw [← e, hgc] at h1
        injection h1 with h1; injection h1 with _ h1
        exact absurd h1 (by decide)
      have hgr : g ≠ w.heap.size + 1 := fun e => by
        have h1 := HPR.out
        rw [← e, hgc] at h1
        injection h1 with h1; injection h1 with _ h1
        exact absurd h1 (by decide)
      have hge := (ow_block hbl (show (Value.slice (some ⟨g, 0, none⟩) l c2).ownBlock = some g from rfl)).1
      have HROW2 := Aside0.mk hbl
      have HGO := Aside0.mk hgo
      have HGR := Aside0.mk hgr
      have HGE := Aside0.mk hge
      have HNE := Aside0.mk hne
      have hbe : w.heap.size ≤ bo := by have := HBO.out; have := HB.out.size; omega
      clear hbl hgc hgo hgr hge hne
      go_wp2_with fail
      have hj1 : (k : Int) + 1 = ((k + 1 : Nat) : Int) := by omega
      rw [hj1]
      clear hj1
      refine (del_entries w.heap.size g l c2 k (k + 1) (cells2 es) _ HROW2.out (cells2_one es) hkl rfl).mono ?_
      rintro e2 w4 ⟨rfl, ho, hg, hz⟩
      have hpo4 := (hg.block bo (heap_lt HPO.out) (fun e => HGO.out (by injection e with e; exact e.symm))).trans HPO.out
      have hpr4 := (hg.block (w.heap.size + 1) (heap_lt HPR.out) (fun e => HGR.out (by injection e with e; exact e.symm))).trans HPR.out
      obtain ⟨u0, u1, v0, v1⟩ := pg_cells hpo4
      obtain ⟨x0, x1, y0, y1⟩ := pg_cells hpr4
      have HO4 := Aside0.mk ho
      have HB4 := Aside0.mk (show Below w.heap.size w w4 from HBW.out.grown hg HBW.out.size (fun j hj => by injection hj with hj; rw [← hj]; exact HGE.out))
      have t4 := tag_of hpo4
      have t5 := tag_of hpr4
      have hne3 := HNE.out
      have hne4 : w.heap.size + 1 ≠ bo := fun e => HNE.out e.symm
      clear ho hg hz hpo4 hpr4 o0' o1' g0' g1'
      go_wp2_with fail
      refine bodyPost_ret (v := .tuple #[.agg #[.int .i64 lsn, .slice (some ⟨g, 0, none⟩) (l - 1) c2], .bool true]) ?_ ?_ ?_
      case refine_2 => rfl
      case refine_3 =>
        refine ⟨.slice (some ⟨g, 0, none⟩) (l - 1) c2, rfl, ⟨?_, ?_⟩, ?_⟩
        · rw [HLN.out, HA.out, cells2_erase es k (by rw [HL.out]; exact hkl)]
          refine ow_frm (T := [74]) (M := fun _ => True) (ow_base HO4.out (Nat.zero_le _)) ?_ (by decide)
          repeat (first | exact Frm.refl _ _ _ | apply Frm.alloc | apply Frm.drew | refine Frm.set ?_ (fun _ => ⟨trivial, by first | (rw [t4]; exact List.mem_cons_self) | (rw [t5]; exact List.mem_cons_self)⟩) _)
        · rw [HLN.out]; omega
        · repeat (first | exact HB4.out | apply below_drew1 | apply below_alloc | refine Below.setCell ?_ (by first | exact hbe | (show w.heap.size ≤ w.heap.size + 1; omega)) _)
      simp [results, Tryz.results186, go_sem, x0, x1, y0, y1, u0, u1, hne3, hne4]
end Go.Proofs.YtaplpeoikebedaaGreatDoor.PageQ
namespace Go.Proofs.YtaplpeoikebedaaGreatDoor.PageV
open Go.RowKit YtaplpeoikebedaaGreatDoorW.PrintWords YtaplpeoikebedaaGreatDoorW.PrintLast YtaplpeoikebedaaGreatDoorW.PrintMore
open See Mem Clone Go.Proofs.YtaplpeoikebedaaGreatDoor.Cell Page PageB PageR PageL Dirty Dirty2 SysD Rw Del Ins2 StoreD PageM PageO
attribute [local go_sem] max2_imax min2_imin max_two min_two
theorem putE_has {es : List (Int × Int)} {n v : Int} {k : Nat} (hk : pos es n = k) (h : has es n = true) : putE es n v = es.set k (n, v) ∧ k < es.length := by
  obtain ⟨f, hf⟩ := pos_has h
  rw [hk] at hf
  exact ⟨by unfold putE; rw [if_pos h, hk], (List.getElem?_eq_some_iff.1 hf).1⟩
theorem putE_not {es : List (Int × Int)} {n v : Int} {k : Nat} (hk : pos es n = k) (h : has es n = false) : putE es n v = es.take k ++ (n, v) :: es.drop k ∧ k ≤ es.length := by
  refine ⟨by unfold putE addT; rw [h, hk]; rfl, by rw [← hk]; exact pos_le es n⟩
theorem cells2_set (es : List (Int × Int)) (k : Nat) (n v : Int) (f : Int) (h : es[k]? = some (n, f)) : cells2 (es.set k (n, v)) = setL (cells2 es) (k * 2 + 1) [.int .i64 v] := by
  induction es generalizing k with
  | nil => simp at h
  | cons x es ih =>
    cases k with
    | zero =>
      simp at h
      subst h
      simp [cells2, setL]
    | succ k =>
      have := ih k (by simpa using h)
      rw [List.set_cons_succ]
      unfold cells2 at this ⊢
      simp only [List.flatMap_cons]
      rw [this, show (k + 1) * 2 + 1 = k * 2 + 1 + 1 + 1 from by omega]
      simp [setL]
theorem eput_has (lsn : Int) (v : Value) (es : List (Int × Int)) (n x : Int) (w : World) (hp : P2 w 169 v es) (hr : Rising es) (hh : has es n = true) :
    Calls Tryz.prog 187 #[.agg #[.int .i64 lsn, v], .int .i64 n, .int .i64 x] w fun e w' => ∃ v', e = .returned (.tuple #[.agg #[.int .i64 lsn, v'], .bool true]) ∧ P2 w' 169 v' (putE es n x) ∧ Below w.heap.size w w' := by
  have HP := Aside0.mk hp
  have HR := Aside0.mk hr
  have HFIND := Aside0.mk (fun (W : World) (hb : Below w.heap.size w W) => efind_calls lsn v es n W (hp.below hb) hr)
  obtain ⟨A, cap, hv, _⟩ := ow_slice hp.1
  obtain ⟨l, hl⟩ : ∃ l, es.length = l := ⟨_, rfl⟩
  have HL := Aside0.mk hl
  have hl5 : l ≤ 100000 := by rw [← hl]; exact hp.2
  rw [hl] at hv
  have hl' := hl
  clear hp hr hl
  subst hv
  obtain ⟨k, hk⟩ : ∃ k : Nat, pos es n = k := ⟨_, rfl⟩
  have HK := Aside0.mk hk
  have HA := Aside0.mk (putE_has (v := x) hk hh).1
  have hkl : k < l := by rw [← hl']; exact (putE_has (v := x) hk hh).2
  have HLN := Aside0.mk (show (putE es n x).length = l by rw [HA.out, List.length_set, hl'])
  have HNF := Aside0.mk (show ∃ f, es[k]? = some (n, f) by
    obtain ⟨f, hf⟩ := pos_has hh
    rw [hk] at hf
    exact ⟨f, hf⟩)
  have HFD' := Aside0.mk (fun (W : World) (hb : Below w.heap.size w W) => by have h := HFIND.out W hb; rw [hh, hk] at h; exact h)
  clear hh hk HFIND
  go_enter Tryz.func187, Tryz.ntmps187
  go_wp2_with fail
  refine (HFD'.out _ (by repeat (first | exact Below.refl _ _ | apply below_drew1 | apply below_alloc))).mono ?_
  rintro e w1 ⟨rfl, hb⟩
  have HB := Aside0.mk (below_step (show Below w.heap.size w ((w.alloc (.cells #[.int .i64 lsn, .slice A l cap] 74)).alloc (.cells #[.int .i64 0, .slice none 0 0] 74)) by repeat (first | exact Below.refl _ _ | apply below_alloc)) hb)
  have HBX := Aside0.mk (show w1.heap[w.heap.size]? = some (.cells #[.int .i64 lsn, .slice A l cap] 74 (0, 0)) from (hb.block w.heap.size (by show w.heap.size < ((w.heap.push _).push _).size; rw [Array.size_push, Array.size_push]; omega)).trans ((Below.heap_alloc _ _ _ (by show w.heap.size < (w.heap.push _).size; rw [Array.size_push]; omega)).trans (heap_alloc_new w _)))
  have HBR := Aside0.mk (show w1.heap[w.heap.size + 1]? = some (.cells #[.int .i64 0, .slice none 0 0] 74 (0, 0)) from (hb.block (w.heap.size + 1) (by simp)).trans (by have := heap_alloc_new (w.alloc (.cells #[.int .i64 lsn, .slice A l cap] 74)) (.cells #[.int .i64 0, .slice none 0 0] 74); simpa using this))
  obtain ⟨q0, q1, f0, f1⟩ := pg_cells HBX.out
  have hz1 : w.heap.size < w1.heap.size := heap_lt HBX.out
  clear hb
  go_wp2_with fail
  have HCL1 := Aside0.mk (fun (W : World) (hb : Below w1.heap.size w1 W) => clone_p2 HP.out HB.out hb)
  have HCL2 := Aside0.mk (fun (W : World) (hb : Below w1.heap.size w1 W) (hy : W.heap[w1.heap.size]? = some (.cells #[.int .i64 0, .slice none 0 0] 74 (0, 0))) => clone_p2_keep HP.out HB.out hb hy)
  rw [HL.out] at HCL1 HCL2
  go_region_law (first
    | (go_simp; go_at_call 146; refine (HCL2.out _ (by repeat (first | exact Below.refl _ _ | apply below_drew1 | apply below_alloc)) (by exact heap_alloc_new w1 _)).mono ?_; rintro e w2 ⟨A2, c2, rfl, hp2, hb2, hbo⟩; obtain ⟨o0, o1, g0, g1⟩ := pg_cells hbo; obtain ⟨k0, k1, l0, l1⟩ := pg_cells ((hb2.block _ hz1).trans HBX.out); have hlt2 := heap_lt hbo; have hlt3 := Nat.lt_of_lt_of_le hz1 hb2.size)
    | (go_simp; go_at_call 146; refine (HCL1.out _ (by repeat (first | exact Below.refl _ _ | apply below_drew1 | apply below_alloc))).mono ?_; rintro e w2 ⟨A2, c2, rfl, hp2, hb2⟩; obtain ⟨k0, k1, l0, l1⟩ := pg_cells ((hb2.block _ hz1).trans HBX.out); have hlt2 := Nat.lt_of_lt_of_le hz1 hb2.size))
  all_goals
    have t1 : tag w2 (w.heap.size + 1) = 74 := tag_of ((hb2.block _ (heap_lt HBR.out)).trans HBR.out)
    have hbr2 := (hb2.block _ (heap_lt HBR.out)).trans HBR.out
    have hrl := heap_lt HBR.out
    have hrl2 := Nat.lt_of_lt_of_le hrl hb2.size
    have HBB := Aside0.mk (below_step HB.out hb2)
    clear k0 k1 l0 l1 q0 q1 f0 f1
    first
      | (obtain ⟨wx, bo, HW, HBO⟩ : ∃ (wx : World) (bo : Nat), Aside0 (wx = (w2.setCell ⟨w1.heap.size, 0, none⟩ (.int .i64 lsn)).setCell ⟨w1.heap.size, 1, none⟩ (.slice A2 l c2)) ∧ Aside0 (bo = w1.heap.size) := ⟨_, _, ⟨rfl⟩, ⟨rfl⟩⟩
         have hpo : wx.heap[bo]? = some (.cells #[.int .i64 lsn, .slice A2 l c2] 74 (0, 0)) := by rw [HW.out, HBO.out]; exact heap_setCell_same _ _ _ _ _ _ (heap_setCell_same _ _ _ _ _ _ hbo)
         have hne : bo ≠ w.heap.size + 1 := by have := HBO.out; omega
         have hpr : wx.heap[w.heap.size + 1]? = some (.cells #[.int .i64 0, .slice none 0 0] 74 (0, 0)) := by rw [HW.out, Below.heap_setCell _ _ _ _ (by have := HBO.out; show w.heap.size + 1 ≠ w1.heap.size; omega), Below.heap_setCell _ _ _ _ (by have := HBO.out; show w.heap.size + 1 ≠ w1.heap.size; omega)]; exact hbr2
         have hfr : Frm [74] (fun _ => True) w2 wx := by rw [HW.out]; exact ((Frm.refl _ _ w2).set (fun _ => ⟨trivial, by rw [tag_of hbo]; exact List.mem_cons_self⟩) _).set (fun _ => ⟨trivial, by rw [tag_of hbo]; exact List.mem_cons_self⟩) _
         have hbw : Below w.heap.size w wx := by rw [HW.out]; exact (HBB.out.setCell (by show w.heap.size ≤ w1.heap.size; omega) _).setCell (by show w.heap.size ≤ w1.heap.size; omega) _
         rw [← HW.out, ← HBO.out])
      | (obtain ⟨wx, bo, HW, HBO⟩ : ∃ (wx : World) (bo : Nat), Aside0 (wx = w2.alloc (.cells #[.int .i64 lsn, .slice A2 l c2] 74)) ∧ Aside0 (bo = w2.heap.size) := ⟨_, _, ⟨rfl⟩, ⟨rfl⟩⟩
         have hpo : wx.heap[bo]? = some (.cells #[.int .i64 lsn, .slice A2 l c2] 74 (0, 0)) := by rw [HW.out, HBO.out]; exact heap_alloc_new _ _
         have hne : bo ≠ w.heap.size + 1 := by have := HBO.out; omega
         have hpr : wx.heap[w.heap.size + 1]? = some (.cells #[.int .i64 0, .slice none 0 0] 74 (0, 0)) := by rw [HW.out]; exact (Below.heap_alloc _ _ _ hrl2).trans hbr2
         have hfr : Frm [74] (fun _ => True) w2 wx := by rw [HW.out]; exact (Frm.refl _ _ w2).alloc _
         have hbw : Below w.heap.size w wx := by rw [HW.out]; exact below_alloc HBB.out _
         rw [← HW.out, ← HBO.out])
  all_goals
    have HROW := Aside0.mk (ow_frm (T := [74]) (ow_base hp2 (Nat.le_trans HB.out.size (Nat.le_refl _))) hfr (by decide))
    have HBW := Aside0.mk hbw
    have HPR := Aside0.mk hpr
    have HPO := Aside0.mk hpo
    obtain ⟨o0', o1', g0', g1'⟩ := pg_cells hpo
    obtain ⟨x0, x1, y0, y1⟩ := pg_cells hpr
    obtain ⟨g, cg, hgv, _, _⟩ := HROW.out.form (by omega)
    injection hgv with hgv1 hgv2 hgv3
    subst hgv1
    have t4 := tag_of hpo
    have t5 := tag_of hpr
    clear hp2 hb2 hfr hbw hpr hpo hbr2 t1 hgv2 hgv3
    obtain ⟨_, cg2, hgc⟩ := ow_block HROW.out (show (Value.slice (some ⟨g, 0, none⟩) l c2).ownBlock = some g from rfl)
    have hgo : g ≠ bo := fun e => by
      have h1 := HPO.out
      rw [← e, hgc] at h1
      injection h1 with h1; injection h1 with _ h1
      exact absurd h1 (by decide)
    have hgr : g ≠ w.heap.size + 1 := fun e => by
      have h1 := HPR.out
      rw [← e, hgc] at h1
      injection h1 with h1; injection h1 with _ h1
      exact absurd h1 (by decide)
    have hog : bo ≠ g := fun e => hgo e.symm
    have hrg : w.heap.size + 1 ≠ g := fun e => hgr e.symm
    have hge := (ow_block HROW.out (show (Value.slice (some ⟨g, 0, none⟩) l c2).ownBlock = some g from rfl)).1
    have hbe : w.heap.size ≤ bo := by have := HBO.out; have := HB.out.size; omega
    have hfz : wx.frozen? ⟨g, k * 2 + 1, none⟩ = false := by simp [World.frozen?, hgc]
    obtain ⟨ff, hff⟩ := HNF.out
    have HFF := Aside0.mk hff
    have hcz : wx.cell? ⟨g, k * 2 + 1, none⟩ = some (.int .i64 ff) := by
      rw [HROW.out.cellAt _ (by omega)]
      exact (cells2_at es k _ hff).2
    have hkl2 : (k : Int) < (l : Int) := by omega
    have hk0 : (0 : Int) ≤ (k : Int) := by omega
    have hne4 : w.heap.size + 1 ≠ bo := fun e => hne e.symm
    obtain ⟨ho, hgg⟩ := own_setCells [.int .i64 x] (k * 2 + 1) wx _ HROW.out
    have HO4 := Aside0.mk (show (wx.setCell ⟨g, k * 2 + 1, none⟩ (.int .i64 x)).ownsRow w.heap.size 169 2 (.slice (some ⟨g, 0, none⟩) l c2) l (setL (cells2 es) (k * 2 + 1) [.int .i64 x]) from ho)
    have t6 : tag (wx.setCell ⟨g, k * 2 + 1, none⟩ (.int .i64 x)) bo = 74 := by rw [tag_eq (Below.heap_setCell _ _ _ _ hog)]; exact t4
    have t7 : tag (wx.setCell ⟨g, k * 2 + 1, none⟩ (.int .i64 x)) (w.heap.size + 1) = 74 := by rw [tag_eq (Below.heap_setCell _ _ _ _ hrg)]; exact t5
    have HB4 := Aside0.mk (show Below w.heap.size w (wx.setCell ⟨g, k * 2 + 1, none⟩ (.int .i64 x)) from HBW.out.setCell hge _)
    clear hgc ho hgg hff t4 t5
    go_wp2_with fail
    refine bodyPost_ret (v := .tuple #[.agg #[.int .i64 lsn, .slice (some ⟨g, 0, none⟩) l c2], .bool true]) ?_ ?_ ?_
    case refine_2 => rfl
    case refine_3 =>
      refine ⟨.slice (some ⟨g, 0, none⟩) l c2, rfl, ⟨?_, ?_⟩, ?_⟩
      · rw [HLN.out, HA.out, cells2_set es k n x ff HFF.out]
        refine ow_frm (T := [74]) (M := fun _ => True) (ow_base HO4.out (Nat.zero_le _)) ?_ (by decide)
        repeat (first | exact Frm.refl _ _ _ | apply Frm.alloc | apply Frm.drew | refine Frm.set ?_ (fun _ => ⟨trivial, by first | (rw [t6]; exact List.mem_cons_self) | (rw [t7]; exact List.mem_cons_self)⟩) _)
      · rw [HLN.out]; omega
      · repeat (first | exact HB4.out | apply below_drew1 | apply below_alloc | refine Below.setCell ?_ (by first | exact hbe | exact hge | (show w.heap.size ≤ w.heap.size + 1; omega)) _)
    simp [results, Tryz.results187, go_sem, x0, x1, y0, y1, o0', o1', hne, hne4, hgo, hgr, hog, hrg]
end Go.Proofs.YtaplpeoikebedaaGreatDoor.PageV
