/- Joined texts: HeldT, FwdF, PageQ. No condition but what each says. -/
import Derived.Test.YtaplpeoikebedaaGreatDoorQ25
import Derived.Test.YtaplpeoikebedaaGreatDoorQ27
import Derived.Test.YtaplpeoikebedaaGreatDoorQ29
import Derived.Deep.RegionLaw
namespace Go.Proofs.YtaplpeoikebedaaGreatDoor.HeldT
open Go.RowKit Go.Proofs.YtaplpeoikebedaaGreatDoorW.PrintWords Go.Proofs.YtaplpeoikebedaaGreatDoorW.PrintLast Go.Proofs.YtaplpeoikebedaaGreatDoorW.PrintMore
open Go.Proofs.YtaplpeoikebedaaGreatDoor.See Go.Proofs.YtaplpeoikebedaaGreatDoor.Mem Go.Proofs.YtaplpeoikebedaaGreatDoor.Clone Go.Proofs.YtaplpeoikebedaaGreatDoor.Cell Go.Proofs.YtaplpeoikebedaaGreatDoor.Page Go.Proofs.YtaplpeoikebedaaGreatDoor.PageR Go.Proofs.YtaplpeoikebedaaGreatDoor.Disk Go.Proofs.YtaplpeoikebedaaGreatDoor.DiskN Go.Proofs.YtaplpeoikebedaaGreatDoor.Pool1 Go.Proofs.YtaplpeoikebedaaGreatDoor.Pool2 Go.Proofs.YtaplpeoikebedaaGreatDoor.Rw Go.Proofs.YtaplpeoikebedaaGreatDoor.Del Go.Proofs.YtaplpeoikebedaaGreatDoor.Num Go.Proofs.YtaplpeoikebedaaGreatDoor.SortI Go.Proofs.YtaplpeoikebedaaGreatDoor.StoreD Go.Proofs.YtaplpeoikebedaaGreatDoor.TransT Go.Proofs.YtaplpeoikebedaaGreatDoor.LockT Go.Proofs.YtaplpeoikebedaaGreatDoor.LockU
attribute [local go_sem] max2_imax min2_imin max_two min_two
set_option linter.unusedVariables false
set_option linter.unusedSimpArgs false
set_option maxHeartbeats 1000000 in
set_option maxRecDepth 100000 in
theorem clos_held (s1 k1 m1 : Int) (w : World) :
    Calls Tryz.prog 185 #[.agg #[.int .i64 s1, .int .i64 k1, .int .i64 m1]] w fun e w' => e = .returned (.bool (m1 == 2)) ∧ Below w.heap.size w w' := by
  go_enter Tryz.func185, Tryz.ntmps185
  go_wp2_with fail
  go_ret
  exact ⟨rfl, by repeat (first | exact Below.refl _ _ | apply pw_below_drewN | apply below_drew1 | apply below_alloc)⟩
theorem heldL_succ {ls : List Lk} {i : Nat} {h : Lk} (hi : ls[i]? = some h) : heldL (ls.take (i + 1)) = heldL (ls.take i) ++ (if h.mode == 2 then [h.key] else []) := by
  obtain ⟨h1, h2⟩ := List.getElem?_eq_some_iff.1 hi
  unfold heldL
  rw [List.take_succ_eq_append_getElem h1, List.filter_append, List.map_append, h2]
  by_cases e : (h.mode == 2) = true
  · simp [e]
  · simp [e]
theorem heldL_len (ls : List Lk) : (heldL ls).length ≤ ls.length := by
  unfold heldL
  rw [List.length_map]
  exact List.length_filter_le _ _
theorem sortI_rise {xs : List Int} (h : xs.Nodup) : (sortI xs).Pairwise (· < ·) := by
  have h1 : (sortI xs).Pairwise (fun a b => decide (a ≤ b) = true) := List.pairwise_mergeSort (fun a b c h1 h2 => by simp at *; omega) (fun a b => by simp; omega) xs
  have h2 : (sortI xs).Nodup := (List.Perm.nodup_iff (List.mergeSort_perm xs _)).2 h
  exact (h1.and h2).imp fun hab => by have := hab.1; have := hab.2; simp at *; omega
/-- Numbers that are read. -/
def NR (w : World) (v : Value) (xs : List Int) : Prop := Rd w 3 1 v xs.length (xs.map (.int .i64))
theorem NR.below {w w' : World} {v : Value} {xs : List Int} (h : NR w v xs) (hb : Below w.heap.size w w') : NR w' v xs := Rd.below h hb
theorem is_at {w : World} {b : Nat} {A : Option Addr} {n cap : Nat} {xs : List Int} (h : IS w b (.slice A n cap) xs) {i : Nat} {x : Int} (hi : xs[i]? = some x) : ∃ g, A = some ⟨g, 0, none⟩ ∧ n = xs.length ∧ w.cell? ⟨g, i, none⟩ = some (.int .i64 x) := by
  have hlt : i < xs.length := (List.getElem?_eq_some_iff.1 hi).1
  rcases h.2 with ⟨h1, h2⟩ | ⟨g', cap', cur, hv, hg, hh, hnc, hcm, hsz, htk⟩
  · omega
  · injection hv with h1 h2 h3
    subst h1 h2
    refine ⟨g', rfl, rfl, ?_⟩
    have hu : (xs.map (Value.int .i64))[i]? = some (.int .i64 x) := by rw [List.getElem?_map, hi]; rfl
    rw [← htk, List.getElem?_take, if_pos (by omega)] at hu
    simp only [World.cell?, hh]
    simpa using hu
set_option maxHeartbeats 2000000 in
set_option maxRecDepth 100000 in
theorem compact_calls (b : Nat) (v : Value) (xs : List Int) (w : World) (h : IS w b v xs) (hp : xs.Pairwise (· < ·)) (hl : xs.length ≤ 100000) :
    Calls Tryz.prog 180 #[v] w fun e w' => e = .returned v ∧ Below w.heap.size w w' := by
  obtain ⟨A, cap, rfl, _⟩ := ow_slice h
  obtain ⟨n, hn⟩ : ∃ n, xs.length = n := ⟨_, rfl⟩
  have HN := Aside0.mk hn
  have HS := Aside0.mk h
  have HP := Aside0.mk hp
  rw [hn] at hl ⊢
  clear h hp hn
  by_cases h2 : (n : Int) < 2
  · go_enter Tryz.func180, Tryz.ntmps180
    go_wp2_with fail
    go_ret
    exact ⟨rfl, Below.refl _ _⟩
  · have HN2 := Aside0.mk (show 2 ≤ n by omega)
    go_enter Tryz.func180, Tryz.ntmps180
    go_wp2_with fail
    go_loopg [3] n (fun kq v3 w' => ∃ (k : Int), v3 = .int .i64 k ∧ Aside0 (1 ≤ k ∧ k ≤ n ∧ (kq : Int) = n + 1 - k) ∧ Aside0 (Below w.heap.size w w'))
    case atStart => exact ⟨1, rfl, ⟨by omega, by have := HN2.out; omega, by omega⟩, ⟨Below.refl _ _⟩⟩
    case round =>
      obtain ⟨k, rfl, HK, HB⟩ := hrel
      have hk1 : 1 ≤ k := HK.out.1
      by_cases hlt : k < n
      · obtain ⟨j, hj⟩ : ∃ j, k - 1 = j := ⟨_, rfl⟩
        obtain ⟨x, hx⟩ : ∃ x, xs[k.toNat]? = some x := ⟨_, List.getElem?_eq_getElem (by have := HN.out; omega)⟩
        obtain ⟨y, hy⟩ : ∃ y, xs[j.toNat]? = some y := ⟨_, List.getElem?_eq_getElem (by have := HN.out; omega)⟩
        have hxy : (x == y) = false := by
          have hx1 := List.getElem?_eq_some_iff.1 hx
          have hy1 := List.getElem?_eq_some_iff.1 hy
          obtain ⟨hx2, hx3⟩ := hx1
          obtain ⟨hy2, hy3⟩ := hy1
          have := List.pairwise_iff_getElem.1 HP.out j.toNat k.toNat hy2 hx2 (by omega)
          rw [hx3, hy3] at this
          simp; omega
        obtain ⟨g, rfl, hnn, hc1⟩ := is_at (HS.out.below HB.out) hx
        obtain ⟨g', hg', _, hc2⟩ := is_at (HS.out.below HB.out) hy
        obtain rfl : g = g' := by simpa using hg'
        have hj0 : 0 ≤ j := by omega
        have hjn : j < n := by omega
        have hw : IntKind.i64.wrap (k - 1) = j := by rw [IntKind.wrap_i64]; omega
        clear hg' hnn hx hy hj
        go_wp2_with fail
        go_quiet (fail)
        have HBQ := Aside0.mk (pw_below_drewN HB.out nq)
        go_wp2_with fail
        go_roundg (gk - 1)
        case measure => have := HK.out; omega
        case rel => exact ⟨k + 1, rfl, ⟨by omega, by omega, by have := HK.out; omega⟩, HBQ⟩
      · go_wp2_with fail
        go_ret
        exact ⟨rfl, HB.out⟩
set_option maxHeartbeats 1000000 in
set_option maxRecDepth 100000 in
theorem clip_calls (b : Nat) (v : Value) (xs : List Int) (w : World) (h : IS w b v xs) (hl : xs.length ≤ 100000) :
    Calls Tryz.prog 214 #[v] w fun e w' => ∃ v', e = .returned v' ∧ NR w' v' xs ∧ Below w.heap.size w w' := by
  rcases h.2 with ⟨rfl, h0⟩ | ⟨g, cap, cur, rfl, hg, hh, hnc, hcm, hsz, htk⟩
  · have hx : xs = [] := List.eq_nil_of_length_eq_zero h0
    subst hx
    go_enter Tryz.func214, Tryz.ntmps214
    go_wp2_with fail
    go_ret
    exact ⟨_, rfl, Rd.nil _ _ _, Below.refl _ _⟩
  · obtain ⟨n, hn⟩ : ∃ n, xs.length = n := ⟨_, rfl⟩
    have HH := Aside0.mk (show NR w (.slice (some ⟨g, 0, none⟩) n n) xs from by
      subst hn
      exact ⟨by simp, by omega, .inr ⟨g, 0, _, cur, _, rfl, hh, Nat.le_refl _, by unfold maxLen; omega, by omega, by simpa using htk⟩⟩)
    rw [hn] at hnc hl ⊢
    clear hh hsz htk hcm hn h
    go_enter Tryz.func214, Tryz.ntmps214
    go_wp2_with fail
    go_ret
    exact ⟨_, rfl, HH.out, Below.refl _ _⟩
set_option maxHeartbeats 4000000 in
set_option maxRecDepth 100000 in
theorem keys_calls (p o : Nat) (v : Value) (ls : List Lk) (w : World) (hr : LR w v ls) (hc : w.cell? ⟨p, o, none⟩ = some v) (hd : (heldL ls).Nodup) :
    Calls Tryz.prog 184 #[.pointer (some ⟨p, o, none⟩), .func (.func 185) #[] #[]] w fun e w' => ∃ v', e = .returned v' ∧ NR w' v' (sortI (heldL ls)) ∧ Below w.heap.size w w' := by
  obtain ⟨i0, hi, hzz⟩ := Option.map_eq_some_iff.1 info_int
  simp only [Prod.mk.injEq] at hzz
  obtain ⟨hz0, hz1, hz2⟩ := hzz
  obtain ⟨A, cap, rfl, _⟩ := ow_slice hr.1
  obtain ⟨l, hl⟩ : ∃ l, ls.length = l := ⟨_, rfl⟩
  have HL := Aside0.mk hl
  have HF := Aside0.mk hr
  have HD := Aside0.mk hd
  have hl8 : l ≤ 100000 := by rw [← hl]; exact hr.2
  rw [hl] at hc
  have HI0 := Aside0.mk (And.intro hi (And.intro hz0 (And.intro hz1 hz2)))
  clear hr hl hi hz0 hz1 hz2 hd
  go_enter Tryz.func184, Tryz.ntmps184
  go_wp2_with fail
  go_loopg [5, 13] (l + 1) (fun kq v5 v13 w' => ∃ (i : Int) (sl : Value), v5 = sl ∧ v13 = .int .i64 i ∧ Aside0 (0 ≤ i ∧ i ≤ l ∧ (kq : Int) = l + 1 - i) ∧ Aside0 (IS w' w.heap.size sl (heldL (ls.take i.toNat))) ∧ Aside0 (Below w.heap.size w w'))
  case atStart => exact ⟨0, _, rfl, rfl, ⟨by omega, by omega, by omega⟩, ⟨IS.nil _ _⟩, ⟨Below.refl _ _⟩⟩
  case round =>
    obtain ⟨i, sl, rfl, rfl, HI, HS, HB⟩ := hrel
    have hi0 : 0 ≤ i := HI.out.1
    by_cases hlt : i < l
    · obtain ⟨f, hf⟩ : ∃ f, ls[i.toNat]? = some f := ⟨_, List.getElem?_eq_getElem (by have := HL.out; omega)⟩
      obtain ⟨g, rfl, hll, hd0, hd1, hd2⟩ := (HF.out.below HB.out).at hf
      have HW := Aside0.mk (heldL_succ hf)
      obtain ⟨fs1, fk, fm⟩ := f
      simp only at hd0 hd1 hd2 HW
      clear hf hll
      go_wp2_with fail
      refine (clos_held fs1 fk fm _).mono ?_
      rintro e w1 ⟨rfl, hb⟩
      have hx1 : w1.heap[wr.heap.size]? = some (.cells #[.int .i64 fs1, .int .i64 fk, .int .i64 fm] 265 (0, 0)) := (hb.block wr.heap.size (by show _ < (wr.heap.push _).size; rw [Array.size_push]; omega)).trans (heap_alloc_new wr _)
      have hc1 : w1.cell? ⟨wr.heap.size, 1, none⟩ = some (.int .i64 fk) := by simp [World.cell?, hx1]
      have HB1 := Aside0.mk (below_step HB.out (below_step (below_alloc (Below.refl wr.heap.size wr) _) hb))
      have HS1 := Aside0.mk (HS.out.below (below_step (below_alloc (Below.refl wr.heap.size wr) _) hb))
      clear hb hx1 hd0 hd1 hd2
      by_cases h3 : fm = 2
      · subst h3
        have HIN := Aside0.mk (show heldL (ls.take (i.toNat + 1)) = heldL (ls.take i.toNat) ++ [fk] from HW.out)
        rw [show ((2 : Int) == 2) = true from by decide]
        obtain ⟨hi, hz0, hz1, hz2⟩ := HI0.out
        obtain ⟨n, hn⟩ : ∃ n, (heldL (ls.take i.toNat)).length = n := ⟨_, rfl⟩
        have HLT := Aside0.mk hn
        have hn5 : n ≤ 100000 := by rw [← hn]; have := heldL_len (ls.take i.toNat); rw [List.length_take] at this; omega
        clear hn
        go_wp2_with (at_builtin; refine wpList_append_lies _ (by rfl) _ _ 22 (by rfl) w.heap.size 3 i0 (.int .i64 0) 1 8 Tryz.underlying22 hi hz0 hz1 hz2 rfl (by decide) _ n ((heldL (ls.take i.toNat)).map (.int .i64)) (by rfl) ?own ⟨w1.heap.size, 0, none⟩ 1 1 [.int .i64 fk] (by rfl) rfl ?news (one_int _) (by decide) (len_ok hn5) ?by8 ?base (w1.heap.size + 1) ?hh ?_)
        case own => have := HS1.out; unfold IS at this; rw [HLT.out] at this; exact ow_below this (by repeat (first | exact Below.refl _ _ | apply below_drew1 | apply below_alloc))
        case news =>
          intro j u hj
          match j, hj with
          | 0, hj => simp at hj; subst hj; simp [Addr.add]
        case by8 => omega
        case base => have := HB1.out.size; simp; omega
        case hh => simp
        intro g2 cap2 w3 hown hgr hor hlt3
        have HO3 := Aside0.mk (show IS w3 w.heap.size (.slice (some ⟨g2, 0, none⟩) (n + 1) cap2) (heldL (ls.take (i.toNat + 1))) from by
          unfold IS
          rw [HIN.out, List.length_append, HLT.out, List.map_append]
          exact hown)
        have HB3 := Aside0.mk (show Below w.heap.size w w3 from (HB1.out.trans (Below.mono (show Below w1.heap.size w1 (w1.alloc (.cells #[.int .i64 fk] 3)) by repeat (first | exact Below.refl _ _ | apply below_drew1 | apply below_alloc)) HB1.out.size)).grown (w := _) hgr (by have := HB1.out.size; simp; omega) (fun k hk => by have h := HS1.out; exact (ow_block h hk).1))
        clear hown hgr hor hlt3 hi hz0 hz1 hz2
        go_wp2_with fail
        go_roundg (gk - 1)
        case measure => have := HI.out; omega
        case rel => exact ⟨i + 1, _, rfl, rfl, ⟨by omega, by omega, by have := HI.out; omega⟩, ⟨by rw [show (i + 1).toNat = i.toNat + 1 from by omega]; exact HO3.out⟩, HB3⟩
      · have q3 : (fm == 2) = false := by simpa using h3
        have HIN := Aside0.mk (show heldL (ls.take (i.toNat + 1)) = heldL (ls.take i.toNat) from by rw [HW.out, q3]; simp)
        rw [q3]
        go_wp2_with fail
        go_roundg (gk - 1)
        case measure => have := HI.out; omega
        case rel => exact ⟨i + 1, _, rfl, rfl, ⟨by omega, by omega, by have := HI.out; omega⟩, ⟨by rw [show (i + 1).toNat = i.toNat + 1 from by omega, HIN.out]; exact HS1.out⟩, HB1⟩
    · have HE := Aside0.mk (show ls.take i.toNat = ls by rw [show i.toNat = ls.length from by have := HI.out; have := HL.out; omega]; exact List.take_length)
      have HS2 := Aside0.mk (show IS wr w.heap.size u5 (heldL ls) from by have h := HS.out; rw [HE.out] at h; exact h)
      obtain ⟨A9, c9, hv9, _⟩ := ow_slice HS2.out
      rw [hv9] at HS2
      obtain ⟨q, hq⟩ : ∃ q, heldL ls = q := ⟨_, rfl⟩
      have HQ := Aside0.mk hq
      rw [hq] at HS2 hv9
      have HRS := Aside0.mk (sortI_rise (by rw [← hq]; exact HD.out : q.Nodup))
      obtain ⟨n, hn⟩ : ∃ n, q.length = n := ⟨_, rfl⟩
      have hn5 : n ≤ 100000 := by rw [← hn, ← hq]; have := heldL_len ls; have := HL.out; omega
      have HSL := Aside0.mk (sortI_len q)
      rw [hn] at HS2 hv9 HSL
      have HN := Aside0.mk hn
      clear hq hn
      subst hv9
      go_wp2_with fail
      refine (sort_is w.heap.size (.slice A9 n c9) q _ HS2.out (by have := HN.out; omega)).mono ?_
      rintro e w2 ⟨rfl, h2, hg2⟩
      have HB2 := Aside0.mk (show Below w.heap.size w w2 from HB.out.grown hg2 HB.out.size (fun k hk => (ow_block HS2.out hk).1))
      have HI2 := Aside0.mk h2
      clear h2 hg2
      go_wp2_with fail
      refine (compact_calls w.heap.size (.slice A9 n c9) (sortI q) _ HI2.out HRS.out (by rw [HSL.out]; exact hn5)).mono ?_
      rintro e w3 ⟨rfl, hb3⟩
      have HB3 := Aside0.mk (below_step HB2.out hb3)
      have HI3 := Aside0.mk (HI2.out.below hb3)
      clear hb3
      go_wp2_with fail
      refine (clip_calls w.heap.size (.slice A9 n c9) (sortI q) _ HI3.out (by rw [HSL.out]; exact hn5)).mono ?_
      rintro e w4 ⟨v4, rfl, hr4, hb4⟩
      obtain ⟨A4, c4, rfl, _⟩ := hr4.form
      have HR4 := Aside0.mk hr4
      have HB4 := Aside0.mk (below_step HB3.out hb4)
      clear hr4 hb4
      go_wp2_with fail
      go_ret
      exact ⟨_, rfl, by rw [HQ.out]; exact HR4.out, HB4.out⟩
set_option maxHeartbeats 1000000 in
set_option maxRecDepth 100000 in
theorem held_calls (p o : Nat) (v : Value) (ls : List Lk) (w : World) (hr : LR w v ls) (hc : w.cell? ⟨p, o, none⟩ = some v) (hd : (heldL ls).Nodup) :
    Calls Tryz.prog 127 #[.pointer (some ⟨p, o, none⟩)] w fun e w' => ∃ v', e = .returned v' ∧ NR w' v' (sortI (heldL ls)) ∧ Below w.heap.size w w' := by
  have HC := Aside0.mk (keys_calls p o v ls w hr hc hd)
  clear hr hc hd
  go_enter Tryz.func127, Tryz.ntmps127
  go_wp2_with fail
  refine HC.out.mono ?_
  rintro e w4 ⟨v4, rfl, hr4, hb4⟩
  obtain ⟨A4, c4, rfl, _⟩ := hr4.form
  have HR4 := Aside0.mk hr4
  have HB4 := Aside0.mk hb4
  clear hr4 hb4
  go_wp2_with fail
  go_ret
  exact ⟨_, rfl, HR4.out, HB4.out⟩
end Go.Proofs.YtaplpeoikebedaaGreatDoor.HeldT
namespace Go.Proofs.YtaplpeoikebedaaGreatDoor.FwdF
open Go.RowKit Go.Maps Go.Proofs.YtaplpeoikebedaaGreatDoorW.PrintWords Go.Proofs.YtaplpeoikebedaaGreatDoorW.PrintLast Go.Proofs.YtaplpeoikebedaaGreatDoorW.PrintMore
open Go.Proofs.YtaplpeoikebedaaGreatDoor.See Go.Proofs.YtaplpeoikebedaaGreatDoor.Mem Go.Proofs.YtaplpeoikebedaaGreatDoor.Page Go.Proofs.YtaplpeoikebedaaGreatDoor.Dirty Go.Proofs.YtaplpeoikebedaaGreatDoor.SysD Go.Proofs.YtaplpeoikebedaaGreatDoor.SysM Go.Proofs.YtaplpeoikebedaaGreatDoor.SortI Go.Proofs.YtaplpeoikebedaaGreatDoor.StoreD Go.Proofs.YtaplpeoikebedaaGreatDoor.StoreF Go.Proofs.YtaplpeoikebedaaGreatDoor.PageO Go.Proofs.YtaplpeoikebedaaGreatDoor.LockT Go.Proofs.YtaplpeoikebedaaGreatDoor.LockU Go.Proofs.YtaplpeoikebedaaGreatDoor.HeldT Go.Proofs.YtaplpeoikebedaaGreatDoor.FwdM Go.Proofs.YtaplpeoikebedaaGreatDoor.FwdP
attribute [local go_sem] max2_imax min2_imin max_two min_two
set_option linter.unusedVariables false
set_option linter.unusedSimpArgs false
theorem place_at (key P q : Int) (h0 : 0 ≤ key) (h1 : key < 1048576) (h2 : 1 ≤ P) (h3 : P ≤ 1000) (hq : placeOf key P = q) (w : World) :
    Calls Tryz.prog 125 #[.int .i64 key, .int .i64 P] w fun e w' => e = .returned (.int .i64 q) ∧ w = w' := by
  subst hq; exact place_calls key P h0 h1 h2 h3 w
theorem nr_at {w : World} {A : Option Addr} {n cap : Nat} {xs : List Int} (h : NR w (.slice A n cap) xs) {i : Nat} {x : Int} (hi : xs[i]? = some x) : ∃ ad, A = some ad ∧ w.cell? (ad.add i) = some (.int .i64 x) := by
  obtain ⟨A', c', hv, h0, h1⟩ := h.form
  injection hv with e1 e2 e3
  subst e1
  cases A with
  | none =>
    have := (h0 rfl).1
    have hlt : i < xs.length := (List.getElem?_eq_some_iff.1 hi).1
    omega
  | some ad => exact ⟨ad, rfl, (h1 ad rfl).1 i _ (by rw [List.getElem?_map, hi]; rfl)⟩
def moreB (es : List (Int × Int)) (P key k : Int) : Bool := !(has es k) && (k != key && placeOf k P == placeOf key P)
def cntB (es : List (Int × Int)) (P key : Int) (q : List Int) (i : Nat) : Int := ((q.take i).filter (moreB es P key)).length
theorem cntB_succ (es : List (Int × Int)) (P key : Int) {q : List Int} {i : Nat} {k : Int} (h : q[i]? = some k) : cntB es P key q (i + 1) = cntB es P key q i + (if moreB es P key k then 1 else 0) := by
  obtain ⟨h1, h2⟩ := List.getElem?_eq_some_iff.1 h
  unfold cntB
  rw [List.take_succ_eq_append_getElem h1, List.filter_append, List.length_append, h2]
  by_cases e : moreB es P key k = true
  · simp [e]
  · simp [e]
theorem cntB_le (es : List (Int × Int)) (P key : Int) (q : List Int) (i : Nat) : 0 ≤ cntB es P key q i ∧ cntB es P key q i ≤ q.length := by
  unfold cntB
  have := List.length_filter_le (moreB es P key) (q.take i)
  rw [List.length_take] at this
  omega
theorem cntB_all (es : List (Int × Int)) (P key : Int) (ls : List Int) : cntB es P key (sortI ls) (sortI ls).length = ((ls.filter (moreB es P key)).length : Int) := by
  unfold cntB
  rw [List.take_length]
  have := ((List.mergeSort_perm ls fun x y => decide (x ≤ y)).filter (moreB es P key)).length_eq
  unfold sortI
  rw [this]
set_option maxHeartbeats 4000000 in
set_option maxRecDepth 100000 in
theorem full_calls (M : Nat → Prop) (sp lp pp dp qp mp : Nat) (blocks frames : Int) (F : FS) (l0 : Int) (v : Value) (es : List (Int × Int)) (key : Int) (w : World) (h : FwM M w sp lp pp dp qp mp blocks frames F) (hp : P2 w 169 v es) (hr : Rising es)
    (hP1 : 1 ≤ F.P) (hP2 : F.P ≤ 1000) (hk0 : 0 ≤ key) (hk1 : key < 1048576) (hd : (heldL F.ks).Nodup) (hrng : ∀ k ∈ heldL F.ks, 0 ≤ k ∧ k < 1048576) (hes : es.length ≤ 1000) :
    Calls Tryz.prog 71 #[.pointer (some ⟨sp, 0, none⟩), .agg #[.int .i64 l0, v], .int .i64 key] w fun e w' =>
      e = .returned (.bool (decide ((20 : Int) ≤ es.length + (((heldL F.ks).filter (moreB es F.P key)).length : Int)))) ∧ Below w.heap.size w w' := by
  obtain ⟨c0, _, _, _, _, _, _, _⟩ := h.cells
  obtain ⟨kv, tv, b1, b2, _⟩ := h.box
  have HH := Aside0.mk (fun (W : World) (hb : Below w.heap.size w W) => held_calls sp 6 kv F.ks W (b2.below hb) (pw_cell_below hb (show w.cell? ⟨sp, 6, none⟩ = some kv by simp [World.cell?, b1, fwCells])) hd)
  have HPP := Aside0.mk hp
  have HRR := Aside0.mk hr
  have HC0 := Aside0.mk (fun (W : World) (hb : Below w.heap.size w W) => pw_cell_below hb c0)
  obtain ⟨q, hq⟩ : ∃ q, sortI (heldL F.ks) = q := ⟨_, rfl⟩
  obtain ⟨P, hPP⟩ : ∃ P, F.P = P := ⟨_, rfl⟩
  obtain ⟨el, hel⟩ : ∃ el, es.length = el := ⟨_, rfl⟩
  have HALL := Aside0.mk (show cntB es P key q q.length = (((heldL F.ks).filter (moreB es P key)).length : Int) by rw [← hq]; exact cntB_all _ _ _ _)
  have HRNG := Aside0.mk (show ∀ k ∈ q, 0 ≤ k ∧ k < 1048576 from fun k hk => by
    rw [← hq] at hk
    unfold sortI at hk
    exact hrng k (List.mem_mergeSort.1 hk))
  have hql : q.length ≤ 100000 := by rw [← hq, sortI_len]; have := heldL_len F.ks; have := b2.2; omega
  rw [hq] at HH
  rw [hPP] at hP1 hP2 HC0 ⊢
  rw [hel] at hes ⊢
  have HEL := Aside0.mk hel
  obtain ⟨A, cap, rfl, _⟩ := ow_slice hp.1
  have hspl := heap_lt b1
  rw [hel]
  clear h hp hr b1 b2 hd hrng hq hPP hel c0
  go_enter Tryz.func71, Tryz.ntmps71
  go_wp2_with fail
  refine (HH.out _ (by repeat (first | exact Below.refl _ _ | apply below_drew1 | apply below_alloc))).mono ?_
  rintro e w1 ⟨v1, rfl, hr1, hb1⟩
  obtain ⟨A1, c1, rfl, _⟩ := hr1.form
  have HB4 := Aside0.mk (show w1.heap[w.heap.size]? = some (.cells #[.int .i64 l0, .slice A el cap] 74 (0, 0)) from (hb1.block w.heap.size (by show _ < (w.heap.push _).size; rw [Array.size_push]; omega)).trans (heap_alloc_new w _))
  have HB1 := Aside0.mk (below_step (below_alloc (Below.refl w.heap.size w) _) hb1)
  have HR1 := Aside0.mk hr1
  obtain ⟨n, hn⟩ : ∃ n, q.length = n := ⟨_, rfl⟩
  have HN := Aside0.mk hn
  rw [hn] at hql
  rw [hn]
  clear hb1 hr1 hn
  go_wp2_with fail
  go_loopg [7, 20] (n + 1) (fun kq v7 v20 w' => ∃ (i c : Int), v7 = .int .i64 c ∧ v20 = .int .i64 i ∧ Aside0 (0 ≤ i ∧ i ≤ n ∧ (kq : Int) = n + 1 - i) ∧ Aside0 (c = el + cntB es P key q i.toNat) ∧ Aside0 (Below w1.heap.size w1 w'))
  case atStart => exact ⟨0, _, rfl, rfl, ⟨by omega, by omega, by omega⟩, ⟨by unfold cntB; simp⟩, ⟨Below.refl _ _⟩⟩
  case round =>
    obtain ⟨i, c, rfl, rfl, HI, HC, HB⟩ := hrel
    have hi0 : 0 ≤ i := HI.out.1
    have hcb : 0 ≤ c ∧ c ≤ 200000 := by have := HC.out; have := cntB_le es P key q i.toNat; have := HN.out; omega
    obtain ⟨hcb0, hcb1⟩ := hcb
    by_cases hlt : i < n
    · obtain ⟨k, hk⟩ : ∃ k, q[i.toNat]? = some k := ⟨_, List.getElem?_eq_getElem (by have := HN.out; omega)⟩
      obtain ⟨ad, rfl, hck⟩ := nr_at (HR1.out.below HB.out) hk
      have HCS := Aside0.mk (cntB_succ es P key hk)
      obtain ⟨k0, k1⟩ := HRNG.out k (List.mem_of_getElem? hk)
      have hbb : wr.heap[w.heap.size]? = some (.cells #[.int .i64 l0, .slice A el cap] 74 (0, 0)) := (HB.out.block _ (heap_lt HB4.out)).trans HB4.out
      have y0 : wr.cell? ⟨w.heap.size, 0, none⟩ = some (.int .i64 l0) := by simp [World.cell?, hbb]
      have y1 : wr.cell? ⟨w.heap.size, 1, none⟩ = some (.slice A el cap) := by simp [World.cell?, hbb]
      have HBW := Aside0.mk (below_step HB1.out HB.out)
      have HEG := Aside0.mk (by have := eget_calls l0 (.slice A el cap) es k wr (by have := HPP.out.below HBW.out; rw [HEL.out] at this; exact this) HRR.out; exact this)
      clear hbb hk
      go_wp2_with fail
      refine HEG.out.mono ?_
      rintro e w2 ⟨rfl, hb2⟩
      have HB2 := Aside0.mk (below_step HB.out hb2)
      have z0 := HC0.out w2 (below_step HBW.out hb2)
      obtain ⟨b, hb⟩ : ∃ b, has es k = b := ⟨_, rfl⟩
      rw [hb]
      have HHB := Aside0.mk hb
      clear hb2 hck y0 y1 hb
      obtain ⟨pk, hpk⟩ : ∃ pk, placeOf k P = pk := ⟨_, rfl⟩
      obtain ⟨pq, hpq⟩ : ∃ pq, placeOf key P = pq := ⟨_, rfl⟩
      have HPK := Aside0.mk hpk
      have HPQ := Aside0.mk hpq
      clear hpk hpq
      cases b with
      | true =>
        have HNO := Aside0.mk (show moreB es P key k = false by unfold moreB; rw [HHB.out]; rfl)
        go_wp2_with fail
        go_quiet (fail)
        have HBQ := Aside0.mk (pw_below_drewN HB2.out nq)
        go_wp2_with fail
        go_roundg (gk - 1)
        case measure => have := HI.out; omega
        case rel => exact ⟨i + 1, c, rfl, rfl, ⟨by omega, by omega, by have := HI.out; omega⟩, ⟨by rw [show (i + 1).toNat = i.toNat + 1 from by omega, HCS.out, HNO.out]; simp; exact HC.out⟩, HBQ⟩
      | false =>
        by_cases hkk : k = key
        · have hne : (k != key) = false := by simp [hkk]
          have HNO := Aside0.mk (show moreB es P key k = false by unfold moreB; rw [HHB.out, hne]; rfl)
          go_wp2_with fail
          go_quiet (fail)
          have HBQ := Aside0.mk (pw_below_drewN HB2.out nq)
          go_wp2_with fail
          go_roundg (gk - 1)
          case measure => have := HI.out; omega
          case rel => exact ⟨i + 1, c, rfl, rfl, ⟨by omega, by omega, by have := HI.out; omega⟩, ⟨by rw [show (i + 1).toNat = i.toNat + 1 from by omega, HCS.out, HNO.out]; simp; exact HC.out⟩, HBQ⟩
        · have hne : (k != key) = true := by simp [hkk]
          have HPC := Aside0.mk (fun (V : World) => (place_at k P pk k0 k1 hP1 hP2 HPK.out V).mono fun e w' h => (⟨h.1, h.2.symm⟩ : e = .returned (.int .i64 pk) ∧ w' = V))
          have HPD := Aside0.mk (fun (V : World) => (place_at key P pq hk0 hk1 hP1 hP2 HPQ.out V).mono fun e w' h => (⟨h.1, h.2.symm⟩ : e = .returned (.int .i64 pq) ∧ w' = V))
          by_cases hpe : pk = pq
          · have hpe' : (pk == pq) = true := by simp [hpe]
            have HNO := Aside0.mk (show moreB es P key k = true by unfold moreB; rw [HHB.out, hne, HPK.out, HPQ.out, hpe']; rfl)
            have hwc : IntKind.i64.wrap (c + 1) = c + 1 := by rw [IntKind.wrap_i64]; omega
            go_wp2_with fail
            go_quiet (first | (go_at_call_of 125 (Value.int .i64 k); refine Calls.quiet_of_same (HPC.out _)) | (go_at_call_of 125 (Value.int .i64 key); refine Calls.quiet_of_same (HPD.out _)))
            have HBQ := Aside0.mk (pw_below_drewN HB2.out nq)
            go_wp2_with fail
            go_roundg (gk - 1)
            case measure => have := HI.out; omega
            case rel => exact ⟨i + 1, c + 1, rfl, rfl, ⟨by omega, by omega, by have := HI.out; omega⟩, ⟨by rw [show (i + 1).toNat = i.toNat + 1 from by omega, HCS.out, HNO.out]; simp; have := HC.out; omega⟩, HBQ⟩
          · have hpe' : (pk == pq) = false := by simp [hpe]
            have HNO := Aside0.mk (show moreB es P key k = false by unfold moreB; rw [HHB.out, hne, HPK.out, HPQ.out, hpe']; rfl)
            go_wp2_with fail
            go_quiet (first | (go_at_call_of 125 (Value.int .i64 k); refine Calls.quiet_of_same (HPC.out _)) | (go_at_call_of 125 (Value.int .i64 key); refine Calls.quiet_of_same (HPD.out _)))
            have HBQ := Aside0.mk (pw_below_drewN HB2.out nq)
            go_wp2_with fail
            go_roundg (gk - 1)
            case measure => have := HI.out; omega
            case rel => exact ⟨i + 1, c, rfl, rfl, ⟨by omega, by omega, by have := HI.out; omega⟩, ⟨by rw [show (i + 1).toNat = i.toNat + 1 from by omega, HCS.out, HNO.out]; simp; exact HC.out⟩, HBQ⟩
    · have HE := Aside0.mk (show c = el + (((heldL F.ks).filter (moreB es P key)).length : Int) by rw [← HALL.out, HC.out, show i.toNat = q.length from by have := HI.out; have := HN.out; omega])
      go_wp2_with fail
      refine bodyPost_ret (v := .bool (decide ((20 : Int) ≤ c))) (by simp [results, Tryz.results71, go_sem]) rfl ⟨by rw [HE.out], below_step HB1.out HB.out⟩
end Go.Proofs.YtaplpeoikebedaaGreatDoor.FwdF
namespace Go.Proofs.YtaplpeoikebedaaGreatDoor.PageQ
open Go.RowKit Go.Proofs.YtaplpeoikebedaaGreatDoorW.PrintWords Go.Proofs.YtaplpeoikebedaaGreatDoorW.PrintLast Go.Proofs.YtaplpeoikebedaaGreatDoorW.PrintMore
open Go.Proofs.YtaplpeoikebedaaGreatDoor.See Go.Proofs.YtaplpeoikebedaaGreatDoor.Mem Go.Proofs.YtaplpeoikebedaaGreatDoor.Clone Go.Proofs.YtaplpeoikebedaaGreatDoor.Cell Go.Proofs.YtaplpeoikebedaaGreatDoor.Page Go.Proofs.YtaplpeoikebedaaGreatDoor.PageB Go.Proofs.YtaplpeoikebedaaGreatDoor.PageR Go.Proofs.YtaplpeoikebedaaGreatDoor.PageL Go.Proofs.YtaplpeoikebedaaGreatDoor.Dirty Go.Proofs.YtaplpeoikebedaaGreatDoor.Dirty2 Go.Proofs.YtaplpeoikebedaaGreatDoor.SysD Go.Proofs.YtaplpeoikebedaaGreatDoor.Rw Go.Proofs.YtaplpeoikebedaaGreatDoor.Del Go.Proofs.YtaplpeoikebedaaGreatDoor.Ins2 Go.Proofs.YtaplpeoikebedaaGreatDoor.StoreD Go.Proofs.YtaplpeoikebedaaGreatDoor.PageM Go.Proofs.YtaplpeoikebedaaGreatDoor.PageO
attribute [local go_sem] max2_imax min2_imin max_two min_two
set_option linter.unusedVariables false
set_option linter.unusedSimpArgs false
set_option maxHeartbeats 4000000 in
set_option maxRecDepth 100000 in
theorem eremove_calls (lsn : Int) (v : Value) (es : List (Int × Int)) (n : Int) (w : World) (hp : P2 w 169 v es) (hr : Rising es) :
    Calls Tryz.prog 186 #[.agg #[.int .i64 lsn, v], .int .i64 n] w fun e w' => ∃ v', e = .returned (.tuple #[.agg #[.int .i64 lsn, v'], .bool (has es n)]) ∧ P2 w' 169 v' (dropT es n) ∧ Below w.heap.size w w' := by
  have HP := Aside0.mk hp
  have HR := Aside0.mk hr
  have HFIND := Aside0.mk (fun (W : World) (hb : Below w.heap.size w W) => efind_calls lsn v es n W (hp.below hb) hr)
  obtain ⟨A, cap, hv, _⟩ := ow_slice hp.1
  obtain ⟨l, hl⟩ : ∃ l, es.length = l := ⟨_, rfl⟩
  have HL := Aside0.mk hl
  have hl5 : l ≤ 100000 := by rw [← hl]; exact hp.2
  rw [hl] at hv
  have hl' := hl
  clear hp hr hl
  subst hv
  obtain ⟨k, hk⟩ : ∃ k : Nat, pos es n = k := ⟨_, rfl⟩
  have HK := Aside0.mk hk
  cases hh : has es n with
  | false =>
    have HA := Aside0.mk (show dropT es n = es by unfold dropT; rw [hh]; rfl)
    have HFD' := Aside0.mk (fun (W : World) (hb : Below w.heap.size w W) => by have h := HFIND.out W hb; rw [hh, hk] at h; exact h)
    clear hh hk HFIND
    go_enter Tryz.func186, Tryz.ntmps186
    go_wp2_with fail
    refine (HFD'.out _ (by repeat (first | exact Below.refl _ _ | apply below_drew1 | apply below_alloc))).mono ?_
    rintro e w1 ⟨rfl, hb⟩
    have HB := Aside0.mk (below_step (show Below w.heap.size w ((w.alloc (.cells #[.int .i64 lsn, .slice A l cap] 74)).alloc (.cells #[.int .i64 0, .slice none 0 0] 74)) by repeat (first | exact Below.refl _ _ | apply below_alloc)) hb)
    have HBX := Aside0.mk (show w1.heap[w.heap.size]? = some (.cells #[.int .i64 lsn, .slice A l cap] 74 (0, 0)) from (hb.block w.heap.size (by show w.heap.size < ((w.heap.push _).push _).size; rw [Array.size_push, Array.size_push]; omega)).trans ((Below.heap_alloc _ _ _ (by show w.heap.size < (w.heap.push _).size; rw [Array.size_push]; omega)).trans (heap_alloc_new w _)))
    have HBR := Aside0.mk (show w1.heap[w.heap.size + 1]? = some (.cells #[.int .i64 0, .slice none 0 0] 74 (0, 0)) from (hb.block (w.heap.size + 1) (by simp)).trans (by have := heap_alloc_new (w.alloc (.cells #[.int .i64 lsn, .slice A l cap] 74)) (.cells #[.int .i64 0, .slice none 0 0] 74); simpa using this))
    obtain ⟨q0, q1, f0, f1⟩ := pg_cells HBX.out
    have hz1 : w.heap.size < w1.heap.size := heap_lt HBX.out
    clear hb
    go_wp2_with fail
    have HCL1 := Aside0.mk (fun (W : World) (hb : Below w1.heap.size w1 W) => clone_p2 HP.out HB.out hb)
    have HCL2 := Aside0.mk (fun (W : World) (hb : Below w1.heap.size w1 W) (hy : W.heap[w1.heap.size]? = some (.cells #[.int .i64 0, .slice none 0 0] 74 (0, 0))) => clone_p2_keep HP.out HB.out hb hy)
    rw [HL.out] at HCL1 HCL2
    go_region_law (first
      | (go_simp; go_at_call 146; refine (HCL2.out _ (by repeat (first | exact Below.refl _ _ | apply below_drew1 | apply below_alloc)) (by exact heap_alloc_new w1 _)).mono ?_; rintro e w2 ⟨A2, c2, rfl, hp2, hb2, hbo⟩; obtain ⟨o0, o1, g0, g1⟩ := pg_cells hbo; obtain ⟨k0, k1, l0, l1⟩ := pg_cells ((hb2.block _ hz1).trans HBX.out); have hlt2 := heap_lt hbo; have hlt3 := Nat.lt_of_lt_of_le hz1 hb2.size)
      | (go_simp; go_at_call 146; refine (HCL1.out _ (by repeat (first | exact Below.refl _ _ | apply below_drew1 | apply below_alloc))).mono ?_; rintro e w2 ⟨A2, c2, rfl, hp2, hb2⟩; obtain ⟨k0, k1, l0, l1⟩ := pg_cells ((hb2.block _ hz1).trans HBX.out); have hlt2 := Nat.lt_of_lt_of_le hz1 hb2.size))
    all_goals
      obtain ⟨r0, r1, s0, s1⟩ := pg_cells ((hb2.block _ (heap_lt HBR.out)).trans HBR.out)
      have hrl := heap_lt HBR.out
      have HP2 := Aside0.mk hp2
      have HB2 := Aside0.mk hb2
      have hrl2 := Nat.lt_of_lt_of_le hrl hb2.size
      have hne1 : w1.heap.size ≠ w.heap.size + 1 := by omega
      have hne2 : w.heap.size + 1 ≠ w1.heap.size := by omega
      have t1 : tag w2 (w.heap.size + 1) = 74 := tag_of ((hb2.block _ (heap_lt HBR.out)).trans HBR.out)
      have HBB := Aside0.mk (below_step HB.out hb2)
      clear k0 k1 l0 l1 hp2 q0 q1 f0 f1 hb2
      go_wp2_with fail
      refine bodyPost_ret (v := .tuple #[.agg #[.int .i64 lsn, .slice A2 l c2], .bool false]) ?_ ?_ ?_
      case refine_2 => rfl
      case refine_3 =>
        refine ⟨.slice A2 l c2, rfl, ⟨?_, ?_⟩, ?_⟩
        · rw [HA.out, HL.out]
          refine ow_frm (T := [74]) (M := fun _ => True) (ow_base HP2.out (Nat.zero_le _)) ?_ (by decide)
          repeat (first | exact Frm.refl _ _ _ | apply Frm.alloc | apply Frm.drew | refine Frm.set ?_ (fun _ => ⟨trivial, by first | (rw [t1]; exact List.mem_cons_self) | (rw [tag_of hbo]; exact List.mem_cons_self)⟩) _)
        · rw [HA.out, HL.out]; exact hl5
        · repeat (first | exact HBB.out | apply below_drew1 | apply below_alloc | refine Below.setCell ?_ (by first | omega | (show w.heap.size ≤ w.heap.size + 1; omega) | (show w.heap.size ≤ w1.heap.size; omega)) _)
      simp [results, Tryz.results186, go_sem, r0, r1, s0, s1, hne1, hne2, hrl2]
  | true =>
    have HA := Aside0.mk (show dropT es n = es.eraseIdx k by unfold dropT; rw [hh, hk]; rfl)
    have hkl : k < l := by
      obtain ⟨f, hf⟩ := pos_has hh
      rw [← hk, ← hl']
      exact (List.getElem?_eq_some_iff.1 hf).1
    have hlt5 : (dropT es n).length = l - 1 := by rw [HA.out, List.length_eraseIdx, if_pos (by rw [hl']; exact hkl), hl']
    have HLN := Aside0.mk hlt5
    have HFD' := Aside0.mk (fun (W : World) (hb : Below w.heap.size w W) => by have h := HFIND.out W hb; rw [hh, hk] at h; exact h)
    clear hh hk HFIND
    go_enter Tryz.func186, Tryz.ntmps186
    go_wp2_with fail
    refine (HFD'.out _ (by repeat (first | exact Below.refl _ _ | apply below_drew1 | apply below_alloc))).mono ?_
    rintro e w1 ⟨rfl, hb⟩
    have HB := Aside0.mk (below_step (show Below w.heap.size w ((w.alloc (.cells #[.int .i64 lsn, .slice A l cap] 74)).alloc (.cells #[.int .i64 0, .slice none 0 0] 74)) by repeat (first | exact Below.refl _ _ | apply below_alloc)) hb)
    have HBX := Aside0.mk (show w1.heap[w.heap.size]? = some (.cells #[.int .i64 lsn, .slice A l cap] 74 (0, 0)) from (hb.block w.heap.size (by show w.heap.size < ((w.heap.push _).push _).size; rw [Array.size_push, Array.size_push]; omega)).trans ((Below.heap_alloc _ _ _ (by show w.heap.size < (w.heap.push _).size; rw [Array.size_push]; omega)).trans (heap_alloc_new w _)))
    have HBR := Aside0.mk (show w1.heap[w.heap.size + 1]? = some (.cells #[.int .i64 0, .slice none 0 0] 74 (0, 0)) from (hb.block (w.heap.size + 1) (by simp)).trans (by have := heap_alloc_new (w.alloc (.cells #[.int .i64 lsn, .slice A l cap] 74)) (.cells #[.int .i64 0, .slice none 0 0] 74); simpa using this))
    obtain ⟨q0, q1, f0, f1⟩ := pg_cells HBX.out
    have hz1 : w.heap.size < w1.heap.size := heap_lt HBX.out
    clear hb
    go_wp2_with fail
    have HCL1 := Aside0.mk (fun (W : World) (hb : Below w1.heap.size w1 W) => clone_p2 HP.out HB.out hb)
    have HCL2 := Aside0.mk (fun (W : World) (hb : Below w1.heap.size w1 W) (hy : W.heap[w1.heap.size]? = some (.cells #[.int .i64 0, .slice none 0 0] 74 (0, 0))) => clone_p2_keep HP.out HB.out hb hy)
    rw [HL.out] at HCL1 HCL2
    go_region_law (first
      | (go_simp; go_at_call 146; refine (HCL2.out _ (by repeat (first | exact Below.refl _ _ | apply below_drew1 | apply below_alloc)) (by exact heap_alloc_new w1 _)).mono ?_; rintro e w2 ⟨A2, c2, rfl, hp2, hb2, hbo⟩; obtain ⟨o0, o1, g0, g1⟩ := pg_cells hbo; obtain ⟨k0, k1, l0, l1⟩ := pg_cells ((hb2.block _ hz1).trans HBX.out); have hlt2 := heap_lt hbo; have hlt3 := Nat.lt_of_lt_of_le hz1 hb2.size)
      | (go_simp; go_at_call 146; refine (HCL1.out _ (by repeat (first | exact Below.refl _ _ | apply below_drew1 | apply below_alloc))).mono ?_; rintro e w2 ⟨A2, c2, rfl, hp2, hb2⟩; obtain ⟨k0, k1, l0, l1⟩ := pg_cells ((hb2.block _ hz1).trans HBX.out); have hlt2 := Nat.lt_of_lt_of_le hz1 hb2.size))
    all_goals
      have t1 : tag w2 (w.heap.size + 1) = 74 := tag_of ((hb2.block _ (heap_lt HBR.out)).trans HBR.out)
      have hbr2 := (hb2.block _ (heap_lt HBR.out)).trans HBR.out
      have hrl := heap_lt HBR.out
      have hrl2 := Nat.lt_of_lt_of_le hrl hb2.size
      have HBB := Aside0.mk (below_step HB.out hb2)
      clear k0 k1 l0 l1 q0 q1 f0 f1
      first
        | (obtain ⟨wx, bo, HW, HBO⟩ : ∃ (wx : World) (bo : Nat), Aside0 (wx = (w2.setCell ⟨w1.heap.size, 0, none⟩ (.int .i64 lsn)).setCell ⟨w1.heap.size, 1, none⟩ (.slice A2 l c2)) ∧ Aside0 (bo = w1.heap.size) := ⟨_, _, ⟨rfl⟩, ⟨rfl⟩⟩
           have hpo : wx.heap[bo]? = some (.cells #[.int .i64 lsn, .slice A2 l c2] 74 (0, 0)) := by rw [HW.out, HBO.out]; exact heap_setCell_same _ _ _ _ _ _ (heap_setCell_same _ _ _ _ _ _ hbo)
           have hne : bo ≠ w.heap.size + 1 := by have := HBO.out; omega
           have hpr : wx.heap[w.heap.size + 1]? = some (.cells #[.int .i64 0, .slice none 0 0] 74 (0, 0)) := by rw [HW.out, Below.heap_setCell _ _ _ _ (by have := HBO.out; show w.heap.size + 1 ≠ w1.heap.size; omega), Below.heap_setCell _ _ _ _ (by have := HBO.out; show w.heap.size + 1 ≠ w1.heap.size; omega)]; exact hbr2
           have hfr : Frm [74] (fun _ => True) w2 wx := by rw [HW.out]; exact ((Frm.refl _ _ w2).set (fun _ => ⟨trivial, by rw [tag_of hbo]; exact List.mem_cons_self⟩) _).set (fun _ => ⟨trivial, by rw [tag_of hbo]; exact List.mem_cons_self⟩) _
           have hbw : Below w.heap.size w wx := by rw [HW.out]; exact (HBB.out.setCell (by show w.heap.size ≤ w1.heap.size; omega) _).setCell (by show w.heap.size ≤ w1.heap.size; omega) _
           rw [← HW.out, ← HBO.out])
        | (obtain ⟨wx, bo, HW, HBO⟩ : ∃ (wx : World) (bo : Nat), Aside0 (wx = w2.alloc (.cells #[.int .i64 lsn, .slice A2 l c2] 74)) ∧ Aside0 (bo = w2.heap.size) := ⟨_, _, ⟨rfl⟩, ⟨rfl⟩⟩
           have hpo : wx.heap[bo]? = some (.cells #[.int .i64 lsn, .slice A2 l c2] 74 (0, 0)) := by rw [HW.out, HBO.out]; exact heap_alloc_new _ _
           have hne : bo ≠ w.heap.size + 1 := by have := HBO.out; omega
           have hpr : wx.heap[w.heap.size + 1]? = some (.cells #[.int .i64 0, .slice none 0 0] 74 (0, 0)) := by rw [HW.out]; exact (Below.heap_alloc _ _ _ hrl2).trans hbr2
           have hfr : Frm [74] (fun _ => True) w2 wx := by rw [HW.out]; exact (Frm.refl _ _ w2).alloc _
           have hbw : Below w.heap.size w wx := by rw [HW.out]; exact below_alloc HBB.out _
           rw [← HW.out, ← HBO.out])
    all_goals
      have HROW := Aside0.mk (ow_frm (T := [74]) (ow_base hp2 (Nat.le_trans HB.out.size (Nat.le_refl _))) hfr (by decide))
      have HBW := Aside0.mk hbw
      have HPR := Aside0.mk hpr
      have HPO := Aside0.mk hpo
      obtain ⟨o0', o1', g0', g1'⟩ := pg_cells hpo
      obtain ⟨g, cg, hgv, _, _⟩ := HROW.out.form (by omega)
      injection hgv with hgv1 hgv2 hgv3
      subst hgv1
      clear hp2 hb2 hfr hbw hpr hpo hbr2 t1 hgv2 hgv3
      have hbl := HROW.out
      obtain ⟨_, cg2, hgc⟩ := ow_block hbl (show (Value.slice (some ⟨g, 0, none⟩) l c2).ownBlock = some g from rfl)
      have hgo : g ≠ bo := fun e => by
        have h1 := HPO.out
        rw [← e, hgc] at h1
        injection h1 with h1; injection h1 with _ h1
        exact absurd h1 (by decide)
      have hgr : g ≠ w.heap.size + 1 := fun e => by
        have h1 := HPR.out
        rw [← e, hgc] at h1
        injection h1 with h1; injection h1 with _ h1
        exact absurd h1 (by decide)
      have hge := (ow_block hbl (show (Value.slice (some ⟨g, 0, none⟩) l c2).ownBlock = some g from rfl)).1
      have HROW2 := Aside0.mk hbl
      have HGO := Aside0.mk hgo
      have HGR := Aside0.mk hgr
      have HGE := Aside0.mk hge
      have HNE := Aside0.mk hne
      have hbe : w.heap.size ≤ bo := by have := HBO.out; have := HB.out.size; omega
      clear hbl hgc hgo hgr hge hne
      go_wp2_with fail
      have hj1 : (k : Int) + 1 = ((k + 1 : Nat) : Int) := by omega
      rw [hj1]
      clear hj1
      refine (del_entries w.heap.size g l c2 k (k + 1) (cells2 es) _ HROW2.out (cells2_one es) hkl rfl).mono ?_
      rintro e2 w4 ⟨rfl, ho, hg, hz⟩
      have hpo4 := (hg.block bo (heap_lt HPO.out) (fun e => HGO.out (by injection e with e; exact e.symm))).trans HPO.out
      have hpr4 := (hg.block (w.heap.size + 1) (heap_lt HPR.out) (fun e => HGR.out (by injection e with e; exact e.symm))).trans HPR.out
      obtain ⟨u0, u1, v0, v1⟩ := pg_cells hpo4
      obtain ⟨x0, x1, y0, y1⟩ := pg_cells hpr4
      have HO4 := Aside0.mk ho
      have HB4 := Aside0.mk (show Below w.heap.size w w4 from HBW.out.grown hg HBW.out.size (fun j hj => by injection hj with hj; rw [← hj]; exact HGE.out))
      have t4 := tag_of hpo4
      have t5 := tag_of hpr4
      have hne3 := HNE.out
      have hne4 : w.heap.size + 1 ≠ bo := fun e => HNE.out e.symm
      clear ho hg hz hpo4 hpr4 o0' o1' g0' g1'
      go_wp2_with fail
      refine bodyPost_ret (v := .tuple #[.agg #[.int .i64 lsn, .slice (some ⟨g, 0, none⟩) (l - 1) c2], .bool true]) ?_ ?_ ?_
      case refine_2 => rfl
      case refine_3 =>
        refine ⟨.slice (some ⟨g, 0, none⟩) (l - 1) c2, rfl, ⟨?_, ?_⟩, ?_⟩
        · rw [HLN.out, HA.out, cells2_erase es k (by rw [HL.out]; exact hkl)]
          refine ow_frm (T := [74]) (M := fun _ => True) (ow_base HO4.out (Nat.zero_le _)) ?_ (by decide)
          repeat (first | exact Frm.refl _ _ _ | apply Frm.alloc | apply Frm.drew | refine Frm.set ?_ (fun _ => ⟨trivial, by first | (rw [t4]; exact List.mem_cons_self) | (rw [t5]; exact List.mem_cons_self)⟩) _)
        · rw [HLN.out]; omega
        · repeat (first | exact HB4.out | apply below_drew1 | apply below_alloc | refine Below.setCell ?_ (by first | exact hbe | (show w.heap.size ≤ w.heap.size + 1; omega)) _)
      simp [results, Tryz.results186, go_sem, x0, x1, y0, y1, u0, u1, hne3, hne4]
end Go.Proofs.YtaplpeoikebedaaGreatDoor.PageQ
