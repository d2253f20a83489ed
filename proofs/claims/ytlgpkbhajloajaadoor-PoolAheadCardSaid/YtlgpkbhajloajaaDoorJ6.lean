/- Joined texts: Num, Fresh, ErrD. -/
import Derived.Test.YtlgpkbhajloajaaDoorJ5
import Derived.Laws.MakeOwn
import Derived.Test.YtlgpkbhajloajaaDoorJ1
import Derived.Test.YtlgpkbhajloajaaDoorJ2
/- The contracts of phoenixworld.Number, phoenixref.Ints, phoenixref.SameInts. No condition. -/
namespace Go.Proofs.YtlgpkbhajloajaaDoor.Num
open Go.RowKit Go.Proofs.YtlgpkbhajloajaaDoorW.PrintWords Go.Proofs.YtlgpkbhajloajaaDoorW.PrintLast Go.Proofs.YtlgpkbhajloajaaDoorW.PrintMore
open Go.Proofs.YtlgpkbhajloajaaDoor.See Go.Proofs.YtlgpkbhajloajaaDoor.Mem Go.Proofs.YtlgpkbhajloajaaDoor.Clone Go.Proofs.YtlgpkbhajloajaaDoor.Cell Go.Proofs.YtlgpkbhajloajaaDoor.Page Go.Proofs.YtlgpkbhajloajaaDoor.PageB Go.Proofs.YtlgpkbhajloajaaDoor.PageR Go.Proofs.YtlgpkbhajloajaaDoor.Disk Go.Proofs.YtlgpkbhajloajaaDoor.DiskN Go.Proofs.YtlgpkbhajloajaaDoor.Pool1 Go.Proofs.YtlgpkbhajloajaaDoor.Pool2
set_option linter.unusedVariables false
set_option linter.unusedSimpArgs false

theorem tmod_lo (x b : Int) (h : 0 < b) (hn : Int.tmod x b < 0) : x % b = Int.tmod x b + b := by
  have h1 := Int.tmod_lt_of_pos x h
  have h2 := Int.lt_tmod_of_pos x h
  have hm : (Int.tmod x b) % b = x % b := by
    rw [Int.tmod_eq_emod]
    split
    · simp
    · rw [show ((b.natAbs : Int)) = b from by omega]; simp
  rw [← hm, ← Int.add_emod_right, Int.emod_eq_of_lt (by omega) (by omega)]

theorem tmod_hi (x b : Int) (h : 0 < b) (hn : ¬ Int.tmod x b < 0) : x % b = Int.tmod x b := by
  have h1 := Int.tmod_lt_of_pos x h
  have hm : (Int.tmod x b) % b = x % b := by
    rw [Int.tmod_eq_emod]
    split
    · simp
    · rw [show ((b.natAbs : Int)) = b from by omega]; simp
  rw [← hm, Int.emod_eq_of_lt (by omega) (by omega)]

set_option maxHeartbeats 1000000 in
set_option maxRecDepth 100000 in
theorem num_calls (x b : Int) (hb : 0 < b) (hb2 : b ≤ 4294967296) (w : World) : Calls Tryd.prog 8 #[.int .i64 x, .int .i64 b] w fun e w' => e = .returned (.int .i64 (x % b)) ∧ w = w' := by
  have h1 := Int.tmod_lt_of_pos x hb
  have h2 := Int.lt_tmod_of_pos x hb
  have hz : (b == 0) = false := by simp; omega
  by_cases h : Int.tmod x b < 0
  · rw [tmod_lo x b hb h]
    go_enter Tryd.func8, Tryd.ntmps8
    go_wp2
    go_ret
    exact ⟨by simp, rfl⟩
  · rw [tmod_hi x b hb h]
    go_enter Tryd.func8, Tryd.ntmps8
    go_wp2
    go_ret
    exact ⟨by simp, rfl⟩

theorem num_at (x b r : Int) (hb : 0 < b) (hb2 : b ≤ 4294967296) (hr : x % b = r) (w : World) : Calls Tryd.prog 8 #[.int .i64 x, .int .i64 b] w fun e w' => e = .returned (.int .i64 r) ∧ w = w' := by
  subst hr; exact num_calls x b hb hb2 w

/-- A slice of numbers that is read. -/
def IR (w : World) (v : Value) (xs : List Int) : Prop := Rd w 3 1 v xs.length (xs.map (.int .i64))
theorem IR.below {w w' : World} {v : Value} {xs : List Int} (h : IR w v xs) (hb : Below w.heap.size w w') : IR w' v xs := Rd.below h hb
theorem IR.frmT {T : List Nat} {M : Nat → Prop} {w w' : World} {v : Value} {xs : List Int} (h : IR w v xs) (hf : Frm T M w w') (he : 3 ∉ T) : IR w' v xs := Rd.frm h hf he
theorem IR.of {w : World} {b : Nat} {v : Value} {xs : List Int} (h : IS w b v xs) (hl : xs.length ≤ 1000000) : IR w v xs := Rd.of_own h hl
theorem IR.nil (w : World) : IR w (.slice none 0 0) [] := Rd.nil w _ _

/-- One of them. -/
theorem IR.at {w : World} {A : Option Addr} {n c : Nat} {xs : List Int} (h : IR w (.slice A n c) xs) {i : Nat} {x : Int} (hx : xs[i]? = some x) : ∃ g o, A = some ⟨g, o, none⟩ ∧ n = xs.length ∧ w.cell? ⟨g, o + i, none⟩ = some (.int .i64 x) := by
  have hl := (List.getElem?_eq_some_iff.1 hx).1
  rcases h.2.2 with ⟨_, h0⟩ | ⟨g, o, cap, cur, fz, hv, hh, hnc, hcm, hsz, htk⟩
  · omega
  · injection hv with h1 h2 h3
    subst h1 h2 h3
    refine ⟨g, o, rfl, rfl, ?_⟩
    have : (xs.map (Value.int .i64))[i]? = some (.int .i64 x) := by rw [List.getElem?_map, hx]; rfl
    rw [← htk, List.getElem?_take, if_pos (by omega), List.getElem?_drop] at this
    simp [World.cell?, hh, ← this]

set_option maxHeartbeats 2000000 in
set_option maxRecDepth 100000 in
theorem sameints_calls (u v : Value) (xs ys : List Int) (w : World) (hx : IR w u xs) (hy : IR w v ys) :
    Calls Tryd.prog 12 #[u, v] w fun e w' => e = .returned (.bool (decide (xs = ys))) ∧ Below w.heap.size w w' := by
  obtain ⟨A, c, hu, _⟩ := Rd.form hx
  obtain ⟨B, d, hv, _⟩ := Rd.form hy
  subst hu hv
  have HX := Aside0.mk hx
  have HY := Aside0.mk hy
  have hm : xs.length ≤ 1000000 := hx.2.1
  obtain ⟨n, hn⟩ : ∃ n, xs.length = n := ⟨_, rfl⟩
  obtain ⟨m, hm2⟩ : ∃ m, ys.length = m := ⟨_, rfl⟩
  have HN := Aside0.mk hn
  have HM := Aside0.mk hm2
  have hm3 : ys.length ≤ 1000000 := hy.2.1
  rw [hn] at hx hm ⊢
  rw [hm2] at hy hm3 ⊢
  clear hx hy hn hm2
  by_cases hne : n = m
  · subst hne
    go_enter Tryd.func12, Tryd.ntmps12
    go_wp2_with fail
    go_loopg [5] (n + 1) (fun kq v5 w' => ∃ (i : Int), v5 = .int .i64 i ∧ Aside0 (0 ≤ i ∧ i ≤ n ∧ (kq : Int) = n + 1 - i) ∧ Aside0 (xs.take i.toNat = ys.take i.toNat) ∧ Aside0 (Below w.heap.size w w'))
    case atStart => exact ⟨0, rfl, ⟨by omega, by omega, by omega⟩, ⟨rfl⟩, ⟨Below.refl _ _⟩⟩
    case round =>
      obtain ⟨i, rfl, HI, HE, HB⟩ := hrel
      have hi0 : 0 ≤ i := HI.out.1
      by_cases hlt : i < n
      · obtain ⟨x, hx⟩ : ∃ x, xs[i.toNat]? = some x := ⟨_, List.getElem?_eq_getElem (by have := HN.out; omega)⟩
        obtain ⟨y, hy⟩ : ∃ y, ys[i.toNat]? = some y := ⟨_, List.getElem?_eq_getElem (by have := HM.out; omega)⟩
        obtain ⟨g, o, rfl, _, hc⟩ := (HX.out.below HB.out).at hx
        obtain ⟨g', o', rfl, _, hc'⟩ := (HY.out.below HB.out).at hy
        have e1 : xs.take (i.toNat + 1) = xs.take i.toNat ++ [x] := by
          obtain ⟨h1, h2⟩ := List.getElem?_eq_some_iff.1 hx
          rw [List.take_succ_eq_append_getElem h1, h2]
        have e2 : ys.take (i.toNat + 1) = ys.take i.toNat ++ [y] := by
          obtain ⟨h1, h2⟩ := List.getElem?_eq_some_iff.1 hy
          rw [List.take_succ_eq_append_getElem h1, h2]
        have HXI := Aside0.mk hx
        have HYI := Aside0.mk hy
        have HE1 := Aside0.mk e1
        have HE2 := Aside0.mk e2
        clear hx hy e1 e2
        by_cases hxy : x = y
        · subst hxy
          have q : (x == x) = true := by simp
          go_wp2_with fail
          go_quiet (fail)
          go_wp2_with fail
          go_roundg (gk - 1)
          case measure => have := HI.out; omega
          case rel => exact ⟨i + 1, rfl, ⟨by omega, by omega, by have := HI.out; omega⟩, ⟨by rw [show (i + 1).toNat = i.toNat + 1 from by omega, HE1.out, HE2.out, HE.out]⟩, ⟨by first | exact HB.out | exact pw_below_drewN HB.out _⟩⟩
        · have q : (x == y) = false := by simp [hxy]
          have HXY := Aside0.mk (show ¬ xs = ys from fun e => by
            subst e
            rw [HXI.out] at HYI
            have h := HYI.out
            injection h with h
            exact hxy h)
          clear hxy
          go_wp2_with fail
          go_quiet (fail)
          go_wp2_with fail
          go_ret
          exact ⟨by rw [decide_eq_false HXY.out]; rfl, by first | exact HB.out | exact pw_below_drewN HB.out _⟩
      · have HEQ := Aside0.mk (show xs = ys by
          have h := HE.out
          rw [List.take_of_length_le (by have := HN.out; have := HI.out; omega), List.take_of_length_le (by have := HM.out; have := HI.out; omega)] at h
          exact h)
        go_wp2_with fail
        go_ret
        exact ⟨by rw [decide_eq_true HEQ.out]; rfl, HB.out⟩
  · have HNE := Aside0.mk (show ¬ xs = ys from fun e => hne (by rw [← HN.out, ← HM.out, e]))
    go_enter Tryd.func12, Tryd.ntmps12
    go_wp2_with fail
    go_ret
    exact ⟨by rw [decide_eq_false HNE.out]; rfl, Below.refl _ _⟩

theorem makeI (n : Nat) (hn : n ≤ 1000000) (W : World) : (Instr.makeSlice 22 (.int .i64 0) (.int .i64 n)).run Tryd.prog W = .ok (.slice (some ⟨W.heap.size, 0, none⟩) 0 n) (W.alloc (.cells (madeCells #[.int .i64 0] n) 3)) := by
  obtain ⟨i0, hi, hzz⟩ := Option.map_eq_some_iff.1 info_int
  simp only [Prod.mk.injEq] at hzz
  obtain ⟨hz0, hz1, hz2⟩ := hzz
  have := run_make (P := Tryd.prog) W 22 3 i0 (.int .i64 0) Tryd.underlying22 hi hz0 .i64 .i64 0 n (Int.le_refl _) (by omega) (by rw [hz2]; omega) (by omega)
  rw [this, hz1]
  simp [Value.cells]
theorem len8 {n : Nat} (h : n ≤ 1000000) : (n + 1) * 8 ≤ 140737488355328 := by omega
theorem lenM {n : Nat} (h : n ≤ 1000000) : n + 1 ≤ maxLen := by unfold maxLen; omega

set_option maxHeartbeats 2000000 in
set_option maxRecDepth 100000 in
theorem ints_calls (u : Value) (xs : List Int) (w : World) (hx : IR w u xs) :
    Calls Tryd.prog 11 #[u] w fun e w' => ∃ v', e = .returned v' ∧ IS w' w.heap.size v' xs ∧ Below w.heap.size w w' := by
  obtain ⟨i0, hi, hzz⟩ := Option.map_eq_some_iff.1 info_int
  simp only [Prod.mk.injEq] at hzz
  obtain ⟨hz0, hz1, hz2⟩ := hzz
  have HI0 := Aside0.mk (And.intro hi (And.intro hz0 (And.intro hz1 hz2)))
  obtain ⟨A, c, hu, _⟩ := Rd.form hx
  subst hu
  have HX := Aside0.mk hx
  have hm : xs.length ≤ 1000000 := hx.2.1
  obtain ⟨n, hn⟩ : ∃ n, xs.length = n := ⟨_, rfl⟩
  have HN := Aside0.mk hn
  rw [hn] at hx hm ⊢
  have hmk := makeI n hm
  clear hx hn hi hz0 hz1 hz2
  go_enter Tryd.func11, Tryd.ntmps11
  go_wp2_with fail
  have HST := Aside0.mk (show IS (w.alloc (.cells (madeCells #[.int .i64 0] n) 3)) w.heap.size (.slice (some ⟨w.heap.size, 0, none⟩) 0 n) [] from World.ownsRow_made w _ n (Nat.le_refl _) (by unfold maxLen; omega) (by rw [size_madeCells]; omega))
  go_loopg [3, 4] (n + 1) (fun kq v3 v4 w' => ∃ (i : Int) (sl : Value), v3 = sl ∧ v4 = .int .i64 i ∧ Aside0 (0 ≤ i ∧ i ≤ n ∧ (kq : Int) = n + 1 - i) ∧ Aside0 (IS w' w.heap.size sl (xs.take i.toNat)) ∧ Aside0 (Below w.heap.size w w'))
  case atStart => exact ⟨0, _, rfl, rfl, ⟨by omega, by omega, by omega⟩, HST, ⟨below_alloc (Below.refl _ _) _⟩⟩
  case round =>
    obtain ⟨i, sl, rfl, rfl, HI, HS, HB⟩ := hrel
    have hi0 : 0 ≤ i := HI.out.1
    by_cases hlt : i < n
    · obtain ⟨x, hx⟩ : ∃ x, xs[i.toNat]? = some x := ⟨_, List.getElem?_eq_getElem (by have := HN.out; omega)⟩
      obtain ⟨g, o, rfl, _, hc⟩ := (HX.out.below HB.out).at hx
      have HXI := Aside0.mk hx
      obtain ⟨hi, hz0, hz1, hz2⟩ := HI0.out
      have HLT := Aside0.mk (show (xs.take i.toNat).length = i.toNat by rw [List.length_take]; have := HN.out; omega)
      have hn5 : i.toNat ≤ 1000000 := by omega
      clear hx
      go_wp2_with (at_builtin; refine wpList_append_lies _ (by rfl) _ _ 22 (by rfl) w.heap.size 3 i0 (.int .i64 0) 1 8 Tryd.underlying22 hi hz0 hz1 hz2 rfl (by decide) _ i.toNat ((xs.take i.toNat).map (.int .i64)) (by rfl) ?own ⟨wr.heap.size, 0, none⟩ 1 1 [.int .i64 x] (by rfl) rfl (by intro j u hj; match j, hj with | 0, hj => simp at hj; subst hj; simp [Addr.add]) (one_int _) (by decide) (lenM hn5) ?by8 ?base (wr.heap.size + 1) ?hh ?_)
      case own => have := HS.out; unfold IS at this; rw [HLT.out] at this; first | exact ow_below this (by repeat (first | exact Below.refl _ _ | apply below_drew1 | apply below_alloc)) | (rw [List.map_take] at this; exact ow_below this (by repeat (first | exact Below.refl _ _ | apply below_drew1 | apply below_alloc)))
      case by8 => exact len8 hn5
      case base => have := HB.out.size; simp; omega
      intro g2 cap2 w3 hown hgr hor hlt3
      have HO3 := Aside0.mk (show IS w3 w.heap.size (.slice (some ⟨g2, 0, none⟩) (i.toNat + 1) cap2) (xs.take (i.toNat + 1)) from by
        have e : xs.take (i.toNat + 1) = xs.take i.toNat ++ [x] := by
          obtain ⟨hl1, hl2⟩ := List.getElem?_eq_some_iff.1 HXI.out
          rw [List.take_succ_eq_append_getElem hl1, hl2]
        unfold IS
        rw [e, List.length_append, HLT.out, List.map_append, List.map_take]
        exact hown)
      have HB3 := Aside0.mk (show Below w.heap.size w w3 from (HB.out.trans (Below.mono (show Below wr.heap.size wr (wr.alloc (.cells #[.int .i64 x] 3)) by repeat (first | exact Below.refl _ _ | apply below_drew1 | apply below_alloc)) HB.out.size)).grown (w := _) hgr (by have := HB.out.size; simp; omega) (fun k hk => by have h := HS.out; exact (ow_block h hk).1))
      clear hown hgr hor hlt3 hi hz0 hz1 hz2
      go_wp2_with fail
      go_roundg (gk - 1)
      case measure => have := HI.out; omega
      case rel => exact ⟨i + 1, _, rfl, rfl, ⟨by omega, by omega, by have := HI.out; omega⟩, ⟨by rw [show (i + 1).toNat = i.toNat + 1 from by omega]; exact HO3.out⟩, HB3⟩
    · have HE := Aside0.mk (show xs.take i.toNat = xs by rw [show i.toNat = xs.length from by have := HI.out; have := HN.out; omega]; exact List.take_length)
      go_wp2_with fail
      go_ret
      exact ⟨_, rfl, by have := HS.out; rw [HE.out] at this; exact this, HB.out⟩

end Go.Proofs.YtlgpkbhajloajaaDoor.Num
/- A pool that is new: phoenixlaw11's first and made. No condition but that api's errors are what their text says. -/
namespace Go.Proofs.YtlgpkbhajloajaaDoor.Fresh
open Go.RowKit Go.Proofs.YtlgpkbhajloajaaDoorW.PrintWords Go.Proofs.YtlgpkbhajloajaaDoorW.PrintLast Go.Proofs.YtlgpkbhajloajaaDoorW.PrintMore
open Go.Proofs.YtlgpkbhajloajaaDoor.See Go.Proofs.YtlgpkbhajloajaaDoor.Mem Go.Proofs.YtlgpkbhajloajaaDoor.Clone Go.Proofs.YtlgpkbhajloajaaDoor.Cell Go.Proofs.YtlgpkbhajloajaaDoor.Page Go.Proofs.YtlgpkbhajloajaaDoor.PageB Go.Proofs.YtlgpkbhajloajaaDoor.PageR Go.Proofs.YtlgpkbhajloajaaDoor.PageL Go.Proofs.YtlgpkbhajloajaaDoor.Disk Go.Proofs.YtlgpkbhajloajaaDoor.DiskN Go.Proofs.YtlgpkbhajloajaaDoor.DiskW Go.Proofs.YtlgpkbhajloajaaDoor.DiskS Go.Proofs.YtlgpkbhajloajaaDoor.RecD Go.Proofs.YtlgpkbhajloajaaDoor.Pool1 Go.Proofs.YtlgpkbhajloajaaDoor.Pool2 Go.Proofs.YtlgpkbhajloajaaDoor.Pool3 Go.Proofs.YtlgpkbhajloajaaDoor.Wal Go.Proofs.YtlgpkbhajloajaaDoor.WalF Go.Proofs.YtlgpkbhajloajaaDoor.Dirty Go.Proofs.YtlgpkbhajloajaaDoor.Dirty2 Go.Proofs.YtlgpkbhajloajaaDoor.SysD Go.Proofs.YtlgpkbhajloajaaDoor.SysM Go.Proofs.YtlgpkbhajloajaaDoor.PoolF Go.Proofs.YtlgpkbhajloajaaDoor.PoolE Go.Proofs.YtlgpkbhajloajaaDoor.PoolG Go.Proofs.YtlgpkbhajloajaaDoor.PoolS Go.Proofs.YtlgpkbhajloajaaDoor.Num Go.Proofs.YtlgpkbhajloajaaDoor.Del
attribute [local go_sem] max2_imax min2_imin max_two min_two
set_option linter.unusedVariables false
set_option linter.unusedSimpArgs false

/-- A pool that is new, over a log that is new, over a disk of zeros. -/
def lg0 (f b : Int) : Lg := ⟨f, b, 0, 1, [], 0⟩
def sys0 (n : Nat) (f b : Int) (frames : Int) : PSys := ⟨zdisk n, lg0 f b, [], frames, []⟩

theorem lg0_ok {f b : Int} (h1 : 0 ≤ f ∧ f ≤ 1000) (h2 : 0 ≤ b ∧ b ≤ 1000) : (lg0 f b).Ok :=
  ⟨h1, h2, ⟨Int.le_refl 0, by show (0 : Int) ≤ _; omega⟩, ⟨Int.le_refl 1, by show (1 : Int) ≤ _; omega⟩, by show ((([] : List RecV).length : Nat) : Int) ≤ b * 6; simp; omega, by show (0 : Int) + ((([] : List RecV).length : Nat) : Int) ≤ _; simp, Nat.le_refl 0, fun r hr => by cases hr⟩

theorem sys0_mem {M : Nat → Prop} {w : World} {pp lp dp n : Nat} {f b frames : Int} (hd : DskM M w dp (zdisk n)) (hl : w.heap[lp]? = some (.cells (logCells dp f b 0 1 (.slice none 0 0) 0) 101 (0, 0)))
    (hp : w.heap[pp]? = some (.cells (poolCells (.slice none 0 0) dp lp frames (.slice none 0 0)) 79 (0, 0))) (h1 : 0 ≤ f ∧ f ≤ 1000) (h2 : 0 ≤ b ∧ b ≤ 1000) (h3 : 1 ≤ frames ∧ frames ≤ 8) (ml : M lp) (mp : M pp) :
    SysM M w pp lp dp (sys0 n f b frames) :=
  ⟨hd, ⟨.slice none 0 0, hl, World.ownsRow_nil _ _ _ _, fun k hk => by simp [Value.ownBlock] at hk, ml, lg0_ok h1 h2⟩,
    ⟨.slice none 0 0, .slice none 0 0, [], ⟨hp, rfl, P2.nil _ _, fun k hk => by simp [Value.ownBlock] at hk, mp, by unfold Rising sys0; simp⟩, ⟨⟨World.ownsRow_nil _ _ _ _, fun f hf => (List.not_mem_nil hf).elim, by simp⟩, rfl, fun k hk => by simp [Value.ownBlock] at hk⟩⟩,
    by unfold FuseOk; show (-1 : Int) ≤ -1 ∧ (-1 : Int) ≤ _; omega, ⟨by simp [sys0], List.Pairwise.nil, fun f hf => by cases hf⟩, by simp [sys0], h3⟩

theorem zdisk_loose (n m : Nat) : LooseLe (zdisk n) m := fun s hs => by
  have := List.eq_of_mem_replicate hs
  rw [this]
  exact Nat.zero_le _

theorem out_of {K : List Nat} {w : World} {a : Nat → Addr} (hs : SentsK K w a) : OutK K (fun k => w.heap.size ≤ k) a := fun i hi => by
  have l1 : gl i < w.heap.size := World.block_lt_of_cell? _ _ (hs.cell i hi)
  obtain ⟨c, t, hr⟩ := hs.row i hi
  have l2 := row_lt hr
  exact ⟨by omega, by omega⟩

theorem frm_below {T : List Nat} {n : Nat} {w w1 w2 : World} (hb : Below n w w1) (hf : Frm T (fun k => n ≤ k) w1 w2) (hn : n ≤ w1.heap.size) : Below n w w2 :=
  hb.trans ⟨hf.os, hf.tape, hf.output, hf.size, fun k hk => hf.block k (by omega) (fun h => by omega)⟩

set_option maxRecDepth 100000 in
theorem read_zero : readPage (List.replicate 256 0) = some (0, []) := by decide +kernel
theorem readE_zero {n : Nat} {i : Int} (h0 : 0 ≤ i) (h1 : i < n) : readE (zdisk n) i = none ∧ readV (zdisk n) i = List.replicate 256 0 := by
  have hi : inD (zdisk n) i = true := by unfold inD zdisk; simp; omega
  have hl : (zdisk n).l[i.toNat]? = some zsec := by
    show (List.replicate n zsec)[i.toNat]? = _
    rw [List.getElem?_replicate, if_pos (by omega)]
  exact readE_in rfl hi hl

theorem here_pool {M : Nat → Prop} {w : World} {pp lp dp : Nat} {S : PSys} (x : SysM M w pp lp dp S) :
    Calls Tryd.prog 13 #[.pointer (some ⟨pp, 0, none⟩)] w fun e w' => ∃ v', e = .returned v' ∧ IS w' w.heap.size v' (S.here.map (·.n)) ∧ Below w.heap.size w w' := by
  obtain ⟨t, h, fs, ht, hh⟩ := x.pool
  have e : S.here.map (·.n) = fs.map (·.n) := by rw [← hh.eq, List.map_map]; rfl
  rw [e]
  exact here_calls pp h fs w hh.frs (pool_cells ht).2.2.2.2

theorem dirty_pool {M : Nat → Prop} {w : World} {pp lp dp : Nat} {S : PSys} (x : SysM M w pp lp dp S) :
    Calls Tryd.prog 20 #[.pointer (some ⟨pp, 0, none⟩)] w fun e w' => ∃ v', e = .returned v' ∧ P2 w' 57 v' S.t ∧ Below w.heap.size w w' := by
  obtain ⟨t, h, fs, ht, hh⟩ := x.pool
  have HC := Aside0.mk (all_calls M pp _ t S.t w ht)
  clear ht hh x
  go_enter Tryd.func20, Tryd.ntmps20
  go_wp2_with fail
  refine HC.out.mono ?_
  rintro e w1 ⟨v1, rfl, hp, hb⟩
  have HP := Aside0.mk hp
  have HB := Aside0.mk hb
  clear hp hb
  go_wp2_with fail
  go_ret
  exact ⟨_, rfl, HP.out, HB.out⟩

/-- What made comes to. -/
def MadePost (n : Nat) (f b frames : Int) (w : World) (e : Ending) (w' : World) : Prop :=
  ∃ dp lp pp, e = .returned (.tuple #[.pointer (some ⟨dp, 0, none⟩), .pointer (some ⟨lp, 0, none⟩), .pointer (some ⟨pp, 0, none⟩)]) ∧ SysM (fun k => w.heap.size ≤ k) w' pp lp dp (sys0 n f b frames) ∧ Below w.heap.size w w'

set_option maxHeartbeats 2000000 in
set_option maxRecDepth 100000 in
theorem made_calls (frames : Int) (h1 : 1 ≤ frames) (h2 : frames ≤ 8) (w : World) :
    Calls Tryd.prog 9 #[.int .i64 frames] w (MadePost 20 10 9 frames w) := by
  have HF := Aside0.mk (show imin (imax frames 1) 8 = frames by rw [imax_eq, imin_eq]; omega)
  have H12 := Aside0.mk (And.intro h1 h2)
  clear h1 h2
  go_enter Tryd.func9, Tryd.ntmps9
  go_wp2_with fail
  refine (new_disk 20 _).mono ?_
  rintro e w1 ⟨dp, rfl, hd, hb⟩
  have HD := Aside0.mk hd
  have HB := Aside0.mk hb
  clear hd hb
  go_wp2_with fail
  refine (new_log dp 10 9 0 1 _).mono ?_
  rintro e w2 ⟨rfl, hw2⟩
  have HW2 := Aside0.mk hw2
  clear hw2
  go_wp2_with fail
  refine (new_pool dp _ frames _).mono ?_
  rintro e w3 ⟨rfl, hw3⟩
  have HW3 := Aside0.mk hw3
  rw [HF.out] at HW3
  clear hw3
  go_wp2_with fail
  have HB2 := Aside0.mk (show Below w1.heap.size w1 w2 by rw [HW2.out]; exact below_alloc (Below.refl _ _) _)
  have HB3 := Aside0.mk (show Below w2.heap.size w2 w3 by rw [HW3.out]; exact below_alloc (Below.refl _ _) _)
  have hs1 := HB.out.size
  have hs2 := HB2.out.size
  have hp3 : w3.heap[w2.heap.size]? = some (.cells (poolCells (.slice none 0 0) dp w1.heap.size frames (.slice none 0 0)) 79 (0, 0)) := by rw [HW3.out]; exact heap_alloc_new _ _
  have hl2 : w2.heap[w1.heap.size]? = some (.cells (logCells dp 10 9 0 1 (.slice none 0 0) 0) 101 (0, 0)) := by rw [HW2.out]; exact heap_alloc_new _ _
  have hl3 : w3.heap[w1.heap.size]? = some (.cells (logCells dp 10 9 0 1 (.slice none 0 0) 0) 101 (0, 0)) := (HB3.out.block _ (heap_lt hl2)).trans hl2
  refine bodyPost_ret (v := .tuple #[.pointer (some ⟨dp, 0, none⟩), .pointer (some ⟨w1.heap.size, 0, none⟩), .pointer (some ⟨w2.heap.size, 0, none⟩)]) (by simp [results, Tryd.results9, go_sem]) rfl ⟨dp, w1.heap.size, w2.heap.size, rfl, sys0_mem ((HD.out.below HB2.out).below HB3.out) hl3 hp3 (by decide) (by decide) H12.out (by omega) (by omega), below_step (below_step HB.out HB2.out) HB3.out⟩

/-- The first page that a new pool gets. -/
theorem get_new {n : Nat} {f b frames : Int} {i hint : Int} (hf : 1 ≤ frames) (h0 : 1 ≤ i) (h1 : i < n) : getS (sys0 n f b frames) i hint = ({ sys0 n f b frames with here := [⟨i, 0, []⟩] }, (0, []), .fine) := by
  rw [getS_room (S := sys0 n f b frames) rfl (by omega) (by show ¬ frames ≤ ((([] : List Fp).length : Nat) : Int); simp; omega)]
  unfold getTail
  obtain ⟨e1, e2⟩ := readE_zero (n := n) (i := i) (by omega) h1
  rw [show readE (sys0 n f b frames).d i = none from e1, show readV (sys0 n f b frames).d i = List.replicate 256 0 from e2, read_zero]
  rfl

set_option maxHeartbeats 4000000 in
set_option maxRecDepth 100000 in
theorem first_calls (a : Nat → Addr) (w : World) (hs : Sents w a) :
    Calls Tryd.prog 7 #[] w fun e w' => e = .returned (.bool true) ∧ Below w.heap.size w w' := by
  have HS := Aside0.mk hs
  clear hs
  go_enter Tryd.func7, Tryd.ntmps7
  go_wp2_with fail
  refine (new_disk 5 _).mono ?_
  rintro e w1 ⟨dp, rfl, hd, hb⟩
  have HD := Aside0.mk hd
  have HB := Aside0.mk hb
  clear hd hb
  go_wp2_with fail
  refine (new_log dp 3 2 0 1 _).mono ?_
  rintro e w2 ⟨rfl, hw2⟩
  have HW2 := Aside0.mk hw2
  clear hw2
  go_wp2_with fail
  refine (new_pool dp _ 2 _).mono ?_
  rintro e w3 ⟨rfl, hw3⟩
  have HW3 := Aside0.mk hw3
  rw [show imin (imax 2 1) 8 = 2 by decide] at HW3
  clear hw3
  have HB2 := Aside0.mk (show Below w1.heap.size w1 w2 by rw [HW2.out]; exact below_alloc (Below.refl _ _) _)
  have HB3 := Aside0.mk (show Below w2.heap.size w2 w3 by rw [HW3.out]; exact below_alloc (Below.refl _ _) _)
  have HX3 := Aside0.mk (show SysM (fun k => w.heap.size ≤ k) w3 w2.heap.size w1.heap.size dp (sys0 5 3 2 2) by
    have hs1 := HB.out.size
    have hs2 := HB2.out.size
    have hp3 : w3.heap[w2.heap.size]? = some (.cells (poolCells (.slice none 0 0) dp w1.heap.size 2 (.slice none 0 0)) 79 (0, 0)) := by rw [HW3.out]; exact heap_alloc_new _ _
    have hl2 : w2.heap[w1.heap.size]? = some (.cells (logCells dp 3 2 0 1 (.slice none 0 0) 0) 101 (0, 0)) := by rw [HW2.out]; exact heap_alloc_new _ _
    have hl3 : w3.heap[w1.heap.size]? = some (.cells (logCells dp 3 2 0 1 (.slice none 0 0) 0) 101 (0, 0)) := (HB3.out.block _ (heap_lt hl2)).trans hl2
    exact sys0_mem ((HD.out.below HB2.out).below HB3.out) hl3 hp3 (by decide) (by decide) (by decide) (by omega) (by omega))
  have HB30 := Aside0.mk (below_step (below_step HB.out HB2.out) HB3.out)
  obtain ⟨lp, hlp⟩ : ∃ lp, w1.heap.size = lp := ⟨_, rfl⟩
  obtain ⟨pp, hpp⟩ : ∃ pp, w2.heap.size = pp := ⟨_, rfl⟩
  rw [hlp, hpp] at HX3
  rw [hpp]
  clear hlp hpp
  go_wp2_with fail
  refine (here_pool HX3.out).mono ?_
  rintro e w4 ⟨v4, rfl, h4, hb4⟩
  obtain ⟨A4, c4, rfl, _⟩ := ow_slice h4
  have HX4 := Aside0.mk (HX3.out.below hb4)
  have HB4 := Aside0.mk (below_step HB30.out hb4)
  rw [show ((sys0 5 3 2 2).here.map (·.n)).length = 0 from rfl] at *
  clear h4 hb4
  go_wp2_with fail
  refine (get_pool a _ pp _ dp _ 1 0 _ (HS.out.below HB4.out) (out_of HS.out) HX4.out (zdisk_loose _ _) (by decide) (by decide)).mono ?_
  rintro e w5 ⟨sl, ev, rfl, hp5, hv5, hx5, hf5⟩
  rw [get_new (by decide) (by decide) (by decide)] at hp5 hv5 hx5 ⊢
  have hev : ev = .nilIface := hv5
  subst hev
  obtain ⟨A5, c5, rfl, _⟩ := ow_slice hp5.1
  have HX5 := Aside0.mk hx5
  have HB5 := Aside0.mk (frm_below HB4.out hf5 HB4.out.size)
  clear hp5 hv5 hx5 hf5
  simp only [List.length_nil]
  go_wp2_with fail
  refine (here_pool (HX5.out.below (below_alloc (Below.refl _ _) _))).mono ?_
  rintro e w6 ⟨v6, rfl, h6, hb6⟩
  obtain ⟨A6, c6, rfl, _⟩ := ow_slice h6
  have HB6 := Aside0.mk (below_step (below_alloc HB5.out _) hb6)
  rw [show (List.map (fun x : Fp => x.n) [⟨1, 0, []⟩]).length = 1 from rfl]
  clear h6 hb6
  go_wp2_with fail
  go_ret
  exact ⟨rfl, HB6.out⟩

end Go.Proofs.YtlgpkbhajloajaaDoor.Fresh
/- A sector that is no page: plain data. No condition. -/
namespace Go.Proofs.YtlgpkbhajloajaaDoor.ErrD
open Go.RowKit Go.Proofs.YtlgpkbhajloajaaDoor.See Go.Proofs.YtlgpkbhajloajaaDoor.Mem Go.Proofs.YtlgpkbhajloajaaDoor.Clone Go.Proofs.YtlgpkbhajloajaaDoor.Cell Go.Proofs.YtlgpkbhajloajaaDoor.Page Go.Proofs.YtlgpkbhajloajaaDoor.PageB Go.Proofs.YtlgpkbhajloajaaDoor.PageR Go.Proofs.YtlgpkbhajloajaaDoor.PageL Go.Proofs.YtlgpkbhajloajaaDoor.Disk Go.Proofs.YtlgpkbhajloajaaDoor.DiskN Go.Proofs.YtlgpkbhajloajaaDoor.DiskW Go.Proofs.YtlgpkbhajloajaaDoor.WalF
set_option linter.unusedVariables false
set_option linter.unusedSimpArgs false

/-- A sector of zeros but for one byte. -/
def zset (v : Int) : List Int := (List.replicate 256 (0 : Int)).set 200 v
theorem zset_len (v : Int) : (zset v).length = 256 := by unfold zset; rw [List.length_set, List.length_replicate]
theorem zset_isB {v : Int} (h0 : 0 ≤ v) (h1 : v < 256) : IsB (zset v) := fun x hx => by
  rcases List.mem_or_eq_of_mem_set hx with hx | rfl
  · rw [List.eq_of_mem_replicate hx]; omega
  · omega
set_option maxRecDepth 100000 in
theorem zset_lsn (v : Int) : lsnOf (zset v) = 0 := by rfl
set_option maxRecDepth 100000 in
theorem zset_cnt (v : Int) : cntOf (zset v) = 0 := by rfl
set_option maxRecDepth 100000 in
theorem page_zero : pageBytes 0 [] = List.replicate 256 0 := by decide +kernel
theorem zset_read {v : Int} (h : v ≠ 0) : readPage (zset v) = none := by
  unfold readPage
  rw [zset_lsn, zset_cnt, show keysOf (zset v) 0 = [] from rfl, page_zero]
  have : decide (List.replicate 256 (0 : Int) = zset v) = false := decide_eq_false fun e => by
    have h1 := congrArg (fun l : List Int => l[200]?) e
    simp only [zset] at h1
    rw [List.getElem?_set_self (by rw [List.length_replicate]; omega), List.getElem?_replicate, if_pos (by omega)] at h1
    injection h1 with h1
    exact h h1.symm
  rw [this]
  simp

/-- A disk of zeros, one sector written. -/
def dE (v : Int) : Dsk := writeD (zdisk 20) 4 (zset v)
theorem dE_eq (v : Int) : dE v = ⟨(List.replicate 20 zsec).modify 4 fun s => ⟨s.fast, s.loose ++ [zset v]⟩, false, -1⟩ := by
  unfold dE writeD
  rw [if_neg (by decide), if_pos (by decide), if_pos (zset_len v)]
  rfl
theorem dE_fine (v : Int) : writeE (zdisk 20) 4 (zset v) = none := by
  unfold writeE
  rw [if_neg (by decide), if_pos (by decide), if_pos (zset_len v)]
  rfl
theorem dE_len (v : Int) : (dE v).l.length = 20 := by unfold dE; rw [writeD_len]; rfl
theorem dE_off (v : Int) : (dE v).off = false := by rw [dE_eq]
theorem dE_out {v i : Int} (h : 20 ≤ i) : readE (dE v) i = some 1 := (readE_out (dE_off v) (by unfold inD; rw [dE_len]; simp; omega)).1
theorem dE_at4 (v : Int) : readE (dE v) 4 = none ∧ readV (dE v) 4 = zset v := by
  have h : (dE v).l[(4 : Int).toNat]? = some ⟨List.replicate 256 0, [zset v]⟩ := by rw [dE_eq]; rfl
  have := readE_in (dE_off v) (i := 4) (by unfold inD; rw [dE_len]; decide) h
  exact this
theorem dE_at2 (v : Int) : readE (dE v) 2 = none ∧ readV (dE v) 2 = List.replicate 256 0 := by
  have h : (dE v).l[(2 : Int).toNat]? = some zsec := by rw [dE_eq]; rfl
  exact readE_in (dE_off v) (i := 2) (by unfold inD; rw [dE_len]; decide) h

/-- x | 1, of a byte. -/
def or1 (x : Int) : Int := bits .or .u8 x 1
theorem or1_all : (List.range 256).all (fun a => decide (1 ≤ or1 (a : Int)) && decide (or1 (a : Int) < 256)) = true := by kernel_rfl
theorem or1_ok {x : Int} (h0 : 0 ≤ x) (h1 : x < 256) : 1 ≤ or1 x ∧ or1 x < 256 := by
  have h := List.all_eq_true.1 or1_all x.toNat (List.mem_range.2 (by omega))
  rw [Int.toNat_of_nonneg h0] at h
  simpa using h

end Go.Proofs.YtlgpkbhajloajaaDoor.ErrD
