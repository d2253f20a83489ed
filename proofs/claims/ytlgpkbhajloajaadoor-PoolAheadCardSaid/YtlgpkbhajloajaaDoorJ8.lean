/- Joined texts: DiskL, SortI, PoolA, TabL, AheadD. -/
import Derived.Test.YtlgpkbhajloajaaDoorJ2
import Derived.Test.YtlgpkbhajloajaaDoorJ1
import Derived.Test.YtlgpkbhajloajaaDoorJ5
import Derived.Shelf.Sort.Plain
import Derived.Shelf.Lay
import Derived.Sort.OwnSortedInts
import Derived.Test.YtlgpkbhajloajaaDoorJ6
import Derived.Test.YtlgpkbhajloajaaDoorJ4
import Derived.Test.YtlgpkbhajloajaaDoorJ7
/- The contract of disk.Loose. No condition. -/
namespace Go.Proofs.YtlgpkbhajloajaaDoor.DiskL
open Go.RowKit Go.Proofs.YtlgpkbhajloajaaDoorW.PrintWords Go.Proofs.YtlgpkbhajloajaaDoorW.PrintLast Go.Proofs.YtlgpkbhajloajaaDoorW.PrintMore
open Go.Proofs.YtlgpkbhajloajaaDoor.See Go.Proofs.YtlgpkbhajloajaaDoor.Mem Go.Proofs.YtlgpkbhajloajaaDoor.Clone Go.Proofs.YtlgpkbhajloajaaDoor.Cell Go.Proofs.YtlgpkbhajloajaaDoor.Page Go.Proofs.YtlgpkbhajloajaaDoor.PageB Go.Proofs.YtlgpkbhajloajaaDoor.PageR Go.Proofs.YtlgpkbhajloajaaDoor.Disk Go.Proofs.YtlgpkbhajloajaaDoor.DiskN
set_option linter.unusedVariables false
set_option linter.unusedSimpArgs false

/-- The sectors that are loose, and how many times. -/
def looseOne (l : List Sec) (j : Nat) : Option (Int × Int) := match l[j]? with
  | some s => if s.loose.length = 0 then none else some ((j : Int), (s.loose.length : Int))
  | none => none
def looseN (l : List Sec) (k : Nat) : List (Int × Int) := (List.range k).filterMap (looseOne l)
theorem looseN_succ (l : List Sec) (k : Nat) : looseN l (k + 1) = looseN l k ++ (looseOne l k).toList := by
  unfold looseN
  rw [List.range_succ, List.filterMap_append]
  cases h : looseOne l k <;> simp [h]
theorem looseN_len (l : List Sec) (k : Nat) : (looseN l k).length ≤ k := by
  unfold looseN
  exact Nat.le_trans (List.length_filterMap_le _ _) (by simp)
theorem info_loose : (Tryd.prog.info? 112).map (fun i => (i.zero, i.size, i.bytes)) = some (some (.agg #[.int .i64 0, .int .i64 0]), 2, 16) := by kernel_rfl
theorem news_two (W : World) (b : Nat) (hb : W.heap.size = b) (u v : Value) (e : Nat) : ∀ j x, [u, v][j]? = some x → (W.alloc (.cells #[u, v] e)).cell? ((⟨b, 0, none⟩ : Addr).add j) = some x := by subst hb; exact news2_at W u v e

set_option maxHeartbeats 4000000 in
set_option maxRecDepth 100000 in
theorem loose_disk (M : Nat → Prop) (p : Nat) (d : Dsk) (w : World) (hd : DskM M w p d) :
    Calls Tryd.prog 29 #[.pointer (some ⟨p, 0, none⟩)] w fun e w' => ∃ v', e = .returned v' ∧ P2 w' 112 v' (looseN d.l d.l.length) ∧ Below w.heap.size w w' := by
  obtain ⟨i0, hi, hzz⟩ := Option.map_eq_some_iff.1 info_loose
  simp only [Prod.mk.injEq] at hzz
  obtain ⟨hz0, hz1, hz2⟩ := hzz
  obtain ⟨g, cap, rs, hd⟩ := hd
  obtain ⟨hc0, hc1, hc2⟩ := hd.cells
  have HD := Aside0.mk hd
  have hfew := hd.few
  obtain ⟨n, hn⟩ : ∃ n, d.l.length = n := ⟨_, rfl⟩
  have HN := Aside0.mk hn
  rw [hn] at hc0 hfew ⊢
  have HI0 := Aside0.mk (And.intro hi (And.intro hz0 (And.intro hz1 hz2)))
  clear hd hn hi hz0 hz1 hz2 hc1 hc2
  go_enter Tryd.func29, Tryd.ntmps29
  go_wp2_with fail
  go_loopg [3, 11] (n + 1) (fun kq v3 v11 w' => ∃ (i : Int) (sl : Value), v3 = sl ∧ v11 = .int .i64 i ∧ Aside0 (0 ≤ i ∧ i ≤ n ∧ (kq : Int) = n + 1 - i) ∧ Aside0 (w'.ownsRow w.heap.size 112 2 sl (looseN d.l i.toNat).length (cells2 (looseN d.l i.toNat))) ∧ Aside0 (Below w.heap.size w w'))
  case atStart => exact ⟨0, _, rfl, rfl, ⟨by omega, by omega, by omega⟩, ⟨World.ownsRow_nil _ _ _ _⟩, ⟨Below.refl _ _⟩⟩
  case round =>
    obtain ⟨i, sl, rfl, rfl, HI, HO, HB⟩ := hrel
    have hi0 : 0 ≤ i := HI.out.1
    by_cases hlt : i < n
    · obtain ⟨s, hs⟩ : ∃ s, d.l[i.toNat]? = some s := ⟨_, List.getElem?_eq_getElem (by have := HN.out; omega)⟩
      obtain ⟨r, hr⟩ : ∃ r, rs[i.toNat]? = some r := ⟨_, List.getElem?_eq_getElem (by have := HN.out; have := HD.out.len; omega)⟩
      have HDW := Aside0.mk (HD.out.move fun k hk _ => HB.out.block k hk)
      obtain ⟨c0, c1⟩ := HDW.out.sec hr
      obtain ⟨h1, ⟨vs, h2, h3⟩, h4⟩ := HDW.out.secs _ _ _ hr hs
      obtain ⟨A1, cc1, hv1, _⟩ := Rd.form h1
      obtain ⟨A2, cc2, hv2, _⟩ := ow_slice h2
      obtain ⟨u, v⟩ := r
      simp only at c0 c1 hv1 hv2
      subst hv1 hv2
      obtain ⟨m, hm⟩ : ∃ m, s.loose.length = m := ⟨_, rfl⟩
      have HOne := Aside0.mk (show looseOne d.l i.toNat = if m = 0 then none else some (i, (m : Int)) from by
        unfold looseOne
        rw [hs]
        simp only [hm]
        rw [Int.toNat_of_nonneg hi0])
      have HSUC := Aside0.mk (looseN_succ d.l i.toNat)
      rw [hm] at c1
      have hsz := HB.out.size
      clear h1 h2 h3 h4 hs hr hm
      by_cases hm0 : m = 0
      · subst hm0
        go_wp2_with fail
        go_roundg (gk - 1)
        case measure => have := HI.out; omega
        case rel => exact ⟨i + 1, _, rfl, rfl, ⟨by omega, by omega, by have := HI.out; omega⟩, ⟨by
          rw [show (i + 1).toNat = i.toNat + 1 from by omega, HSUC.out, HOne.out]
          have h := HO.out
          simp only [if_true, Option.toList, List.append_nil]
          exact ow_below h (by repeat (first | exact Below.refl _ _ | apply below_drew1 | apply below_alloc))⟩, ⟨by
          refine below_step HB.out ?_
          repeat (first | exact Below.refl _ _ | apply below_drew1 | apply below_alloc)⟩⟩
      · have hm1 : (0 : Int) < (m : Int) := by omega
        have HM0 := Aside0.mk hm0
        obtain ⟨hi, hz0, hz1, hz2⟩ := HI0.out
        obtain ⟨q, hq⟩ : ∃ q, looseN d.l i.toNat = q := ⟨_, rfl⟩
        have HQ := Aside0.mk hq
        have hql : q.length ≤ 100000 := by rw [← hq]; have := looseN_len d.l i.toNat; omega
        have HO2 := Aside0.mk (show wr.ownsRow w.heap.size 112 2 u3 q.length (cells2 q) from by have h := HO.out; rw [hq] at h; exact h)
        obtain ⟨ql, hqlen⟩ : ∃ ql, q.length = ql := ⟨_, rfl⟩
        have HQL := Aside0.mk hqlen
        rw [hqlen] at hql HO2
        clear hq hqlen hm0
        go_wp2_with (at_builtin; refine wpList_append_lies _ (by rfl) _ _ 69 (by rfl) w.heap.size 112 i0 (.agg #[.int .i64 0, .int .i64 0]) 2 16 Tryd.underlying69 hi hz0 hz1 hz2 rfl (by decide) _ ql (cells2 q) (by rfl) (by exact ow_below HO2.out (by repeat (first | exact Below.refl _ _ | apply below_drew1 | apply below_alloc))) ⟨wr.heap.size + 1, 0, none⟩ 1 1 [.int .i64 i, .int .i64 m] (by rfl) rfl (by exact news_two _ _ (by simp) _ _ _) (by intro u hu; simp at hu; rcases hu with rfl | rfl <;> rfl) (by decide) (by unfold maxLen; omega) (by omega) (by simp; omega) (wr.heap.size + 2) (by simp) ?_)
        intro g2 cap2 w3 hown hgr hor hlt3
        have HOWN := Aside0.mk hown
        have HB3 := Aside0.mk (show Below w.heap.size w w3 from (below_step HB.out (by repeat (first | exact Below.refl wr.heap.size wr | apply below_drew1 | apply below_alloc))).grown hgr (by simp; omega) (fun k hk => (ow_block HO2.out hk).1))
        clear hown hgr hor hlt3 hi hz0 hz1 hz2
        go_wp2_with fail
        go_roundg (gk - 1)
        case measure => have := HI.out; omega
        case rel => exact ⟨i + 1, _, rfl, rfl, ⟨by omega, by omega, by have := HI.out; omega⟩, ⟨by
          rw [show (i + 1).toNat = i.toNat + 1 from by omega, HSUC.out, HOne.out, if_neg HM0.out, HQ.out]
          have h := HOWN.out
          have e : cells2 (q ++ [(i, (m : Int))]) = cells2 q ++ [.int .i64 i, .int .i64 m] := by simp [cells2]
          rw [show (some (i, (m : Int))).toList = [(i, (m : Int))] from rfl, e, List.length_append, HQL.out]
          exact h⟩, HB3⟩
    · have HE := Aside0.mk (show i.toNat = n by have := HI.out; omega)
      go_wp2_with fail
      go_ret
      exact ⟨_, rfl, ⟨ow_base (by have h := HO.out; rw [HE.out] at h; exact h) (Nat.zero_le _), by have := looseN_len d.l n; omega⟩, HB.out⟩

end Go.Proofs.YtlgpkbhajloajaaDoor.DiskL
/- The contract of slices.Sort at numbers, laid from the shelf. No condition. -/
namespace Go.Proofs.YtlgpkbhajloajaaDoor.SortI
open Go.RowKit Go.Sort Go.Shelf Go.Proofs Go.Proofs.YtlgpkbhajloajaaDoor.See Go.Proofs.YtlgpkbhajloajaaDoor.Mem Go.Proofs.YtlgpkbhajloajaaDoor.Pool2
set_option linter.unusedVariables false
set_option linter.unusedSimpArgs false
shelf_lay Lays.n189 Nm 189 at Tryd as lays189

/-- The numbers in order. -/
def sortI (xs : List Int) : List Int := xs.mergeSort fun x y => decide (x ≤ y)
theorem sortI_len (xs : List Int) : (sortI xs).length = xs.length := by unfold sortI; exact List.length_mergeSort xs

theorem sort_some (b g n c : Nat) (xs : List Int) (w : World) (h : IS w b (.slice (some ⟨g, 0, none⟩) n c) xs) (hn : n = xs.length) (hm : xs.length ≤ 1000000) :
    Calls Tryd.prog 52 #[.slice (some ⟨g, 0, none⟩) n c] w fun e w' => e = .returned (.tuple #[]) ∧ IS w' b (.slice (some ⟨g, 0, none⟩) n c) (sortI xs) ∧ w.grownBy w' (some g) := by
  subst hn
  rcases h.2 with ⟨h1, _⟩ | ⟨g', cap, cur, hv, hg, hh, hnc, hcm, hsz, htk⟩
  · cases h1
  · injection hv with h1 h2 h3
    injection h1 with h1; injection h1 with h1
    subst h1 h3
    have hH := holds_of_blockI (ss := xs) hh (by simpa using htk)
    have hgl := heap_lt hh
    refine (Any.slices_Sort_int lays189 g 0 c xs w hH hgl (by omega)).mono ?_
    rintro e w' ⟨rfl, k, os, rfl⟩
    refine ⟨rfl, ?_, grownBy_sortedI _⟩
    unfold IS
    rw [sortI_len]
    exact ownsRow_sortedI (sortI_len xs) hg hh hnc hcm hsz

set_option maxHeartbeats 2000000 in
set_option maxRecDepth 100000 in
theorem len64_zero (w : World) : Calls Tryd.prog 93 #[.int .u64 0] w fun e w' => ∃ y, e = .returned (.int .i64 y) ∧ w = w' := by
  go_enter Tryd.func93, Tryd.ntmps93
  go_wp2
  go_ret
  exact ⟨_, rfl, rfl⟩

set_option maxHeartbeats 2000000 in
set_option maxRecDepth 100000 in
theorem len_zero (w : World) : Calls Tryd.prog 72 #[.int .u64 0] w fun e w' => ∃ y, e = .returned (.int .i64 y) ∧ w = w' := by
  go_enter Tryd.func72, Tryd.ntmps72
  go_wp2_with fail
  refine (len64_zero _).mono ?_
  rintro e w' ⟨y, rfl, rfl⟩
  go_wp2_with fail
  go_ret
  exact ⟨_, rfl, rfl⟩

set_option maxHeartbeats 2000000 in
set_option maxRecDepth 100000 in
theorem ins_nil (w : World) : Calls Tryd.prog 83 #[.slice none 0 0, .int .i64 0, .int .i64 0] w fun e w' => e = .returned (.tuple #[]) ∧ w = w' := by
  go_enter Tryd.func83, Tryd.ntmps83
  go_wp2_with fail
  go_loopg [6] 1 (fun kq v6 w' => v6 = .int .i64 1 ∧ w' = w)
  case atStart => exact ⟨rfl, rfl⟩
  case round =>
    obtain ⟨rfl, rfl⟩ := hrel
    go_wp2_with fail
    exact bodyPost_end (v := .tuple #[]) (by simp [results, Tryd.results83, go_sem]) rfl ⟨rfl, rfl⟩

set_option maxHeartbeats 2000000 in
set_option maxRecDepth 100000 in
theorem pdq_nil (y : Int) (w : World) : Calls Tryd.prog 71 #[.slice none 0 0, .int .i64 0, .int .i64 0, .int .i64 y] w fun e w' => e = .returned (.tuple #[]) ∧ w = w' := by
  go_enter Tryd.func71, Tryd.ntmps71
  go_wp2_with fail
  go_loopg [1, 2] 1 (fun kq v1 v2 w' => v1 = .int .i64 0 ∧ v2 = .int .i64 0 ∧ w' = w)
  case atStart => exact ⟨rfl, rfl, rfl⟩
  case round =>
    obtain ⟨rfl, rfl, rfl⟩ := hrel
    go_wp2_with fail
    refine (ins_nil _).mono ?_
    rintro e w' ⟨rfl, rfl⟩
    go_wp2_with fail
    exact bodyPost_ret (v := .tuple #[]) (by simp [results, Tryd.results71, go_sem]) rfl ⟨rfl, rfl⟩

set_option maxHeartbeats 2000000 in
set_option maxRecDepth 100000 in
theorem sort_nil (w : World) : Calls Tryd.prog 52 #[.slice none 0 0] w fun e w' => e = .returned (.tuple #[]) ∧ w = w' := by
  go_enter Tryd.func52, Tryd.ntmps52
  go_wp2_with fail
  refine (len_zero _).mono ?_
  rintro e w' ⟨y, rfl, rfl⟩
  go_wp2_with fail
  refine (pdq_nil y _).mono ?_
  rintro e w' ⟨rfl, rfl⟩
  go_wp2_with fail
  exact bodyPost_end (v := .tuple #[]) (by simp [results, Tryd.results52, go_sem]) rfl ⟨rfl, rfl⟩

/-- slices.Sort of numbers of the call's own. -/
theorem sort_is (b : Nat) (v : Value) (xs : List Int) (w : World) (h : IS w b v xs) (hm : xs.length ≤ 1000000) :
    Calls Tryd.prog 52 #[v] w fun e w' => e = .returned (.tuple #[]) ∧ IS w' b v (sortI xs) ∧ w.grownBy w' v.ownBlock := by
  obtain ⟨A, c, rfl, hn⟩ := ow_slice h
  cases A with
  | none =>
    obtain ⟨h0, rfl⟩ := hn rfl
    have hx : xs = [] := List.eq_nil_of_length_eq_zero h0
    subst hx
    refine (sort_nil w).mono ?_
    rintro e w' ⟨rfl, rfl⟩
    exact ⟨rfl, by rw [show sortI [] = [] from by simp [sortI]]; exact IS.nil _ _, World.grownBy.refl _ _⟩
  | some ad =>
    rcases h.2 with ⟨h1, _⟩ | ⟨g', cap, cur, hv, _⟩
    · cases h1
    · injection hv with h1 h2 h3
      injection h1 with h1
      subst h1
      exact sort_some b g' xs.length c xs w h rfl hm

end Go.Proofs.YtlgpkbhajloajaaDoor.SortI
/- The contract of pool.FlushAll. No condition but that api's errors are what their text says. -/
namespace Go.Proofs.YtlgpkbhajloajaaDoor.PoolA
open Go.RowKit Go.Proofs.YtlgpkbhajloajaaDoorW.PrintWords Go.Proofs.YtlgpkbhajloajaaDoorW.PrintLast Go.Proofs.YtlgpkbhajloajaaDoorW.PrintMore
open Go.Proofs.YtlgpkbhajloajaaDoor.See Go.Proofs.YtlgpkbhajloajaaDoor.Mem Go.Proofs.YtlgpkbhajloajaaDoor.Clone Go.Proofs.YtlgpkbhajloajaaDoor.Cell Go.Proofs.YtlgpkbhajloajaaDoor.Page Go.Proofs.YtlgpkbhajloajaaDoor.PageB Go.Proofs.YtlgpkbhajloajaaDoor.PageR Go.Proofs.YtlgpkbhajloajaaDoor.Disk Go.Proofs.YtlgpkbhajloajaaDoor.DiskN Go.Proofs.YtlgpkbhajloajaaDoor.DiskW Go.Proofs.YtlgpkbhajloajaaDoor.DiskS Go.Proofs.YtlgpkbhajloajaaDoor.RecD Go.Proofs.YtlgpkbhajloajaaDoor.Pool1 Go.Proofs.YtlgpkbhajloajaaDoor.Pool2 Go.Proofs.YtlgpkbhajloajaaDoor.Pool3 Go.Proofs.YtlgpkbhajloajaaDoor.Wal Go.Proofs.YtlgpkbhajloajaaDoor.WalF Go.Proofs.YtlgpkbhajloajaaDoor.Dirty Go.Proofs.YtlgpkbhajloajaaDoor.Dirty2 Go.Proofs.YtlgpkbhajloajaaDoor.SysD Go.Proofs.YtlgpkbhajloajaaDoor.SysM Go.Proofs.YtlgpkbhajloajaaDoor.PoolF Go.Proofs.YtlgpkbhajloajaaDoor.PoolE Go.Proofs.YtlgpkbhajloajaaDoor.PoolG Go.Proofs.YtlgpkbhajloajaaDoor.PoolS Go.Proofs.YtlgpkbhajloajaaDoor.Num Go.Proofs.YtlgpkbhajloajaaDoor.SortI Go.Proofs.YtlgpkbhajloajaaDoor.Fresh Go.Proofs.YtlgpkbhajloajaaDoor.Del
attribute [local go_sem] max2_imax min2_imin max_two min_two
set_option linter.unusedVariables false
set_option linter.unusedSimpArgs false

/-- pool.FlushAll. -/
def flushAllS (S : PSys) : PSys × Option Nat :=
  match flushL S (sortI (S.here.map (·.n))) with
  | (S', some e) => (S', some e)
  | (S', none) => ({ S' with d := syncD S'.d }, syncE S'.d)

/-- How loose a disk is behind a Flush. -/
theorem flushS_loose {S : PSys} {n : Int} {m : Nat} (hf : FuseOk S.d) (hl : LooseLe S.d m) : LooseLe (flushS S n).1.d (m + S.l.l.length + 2) ∧ (flushS S n).1.l.l.length = S.l.l.length := by
  unfold flushS
  split
  · exact ⟨hl.mono (by omega), rfl⟩
  · rename_i f hfd
    split
    · exact ⟨hl.mono (by omega), rfl⟩
    · by_cases hd : S.l.doneN < f.lsn
      · simp only [if_pos hd]
        obtain ⟨o1, o2, o3⟩ := lflush_ok (L := S.l) hf hl
        have hll : (lflush S.l S.d).1.l.length = S.l.l.length := by
          unfold lflush
          split
          · rfl
          · split
            · rfl
            · split <;> rfl
        split
        · exact ⟨o2.mono (by omega), hll⟩
        · split
          · exact ⟨(writeD_loose n (pageBytes f.lsn f.es) o2).mono (by omega), hll⟩
          · exact ⟨(writeD_loose n (pageBytes f.lsn f.es) o2).mono (by omega), hll⟩
      · simp only [if_neg hd]
        split
        · exact ⟨(writeD_loose n (pageBytes f.lsn f.es) hl).mono (by omega), rfl⟩
        · exact ⟨(writeD_loose n (pageBytes f.lsn f.es) hl).mono (by omega), rfl⟩

theorem flushL_cons_ok {S S' : PSys} {n : Int} {ns : List Int} (h : flushS S n = (S', none)) : flushL S (n :: ns) = flushL S' ns := by rw [flushL, h]
theorem flushL_cons_err {S S' : PSys} {n : Int} {ns : List Int} {e : Nat} (h : flushS S n = (S', some e)) : flushL S (n :: ns) = (S', some e) := by rw [flushL, h]

theorem sys_keepM {M : Nat → Prop} {w w1 w2 : World} {pp lp dp : Nat} {S : PSys} (hb : w.heap.size ≤ w1.heap.size) (hx : SysM (Gr (Gr M w w1) w1 w2) w2 pp lp dp S) (hz : w1.heap.size ≤ w2.heap.size) : SysM (Gr M w w2) w2 pp lp dp S :=
  hx.mono fun k hk => by
    rcases hk with (hk | ⟨h1, h2⟩) | ⟨h1, h2⟩
    · exact .inl hk
    · exact .inr ⟨h1, by omega⟩
    · exact .inr ⟨by omega, h2⟩

/-- What pool.FlushAll comes to. -/
def PAllPost (a : Nat → Addr) (M : Nat → Prop) (pp lp dp : Nat) (S : PSys) (w : World) (e : Ending) (w' : World) : Prop :=
  e = .returned (errv a (flushAllS S).2) ∧ SysM (Gr M w w') w' pp lp dp (flushAllS S).1 ∧ Frm sTurn M w w'

set_option maxHeartbeats 8000000 in
set_option maxRecDepth 100000 in
theorem flushall_pool (a : Nat → Addr) (M : Nat → Prop) (pp lp dp : Nat) (S : PSys) (w : World) (hs : Sents w a) (hO : Out M a) (x : SysM M w pp lp dp S) (hlo : LooseLe S.d 7000) (hll : S.l.l.length ≤ 4000) :
    Calls Tryd.prog 28 #[.pointer (some ⟨pp, 0, none⟩)] w (PAllPost a M pp lp dp S w) := by
  have HS := Aside0.mk hs
  have HO := Aside0.mk hO
  have HX := Aside0.mk x
  have HLO := Aside0.mk hlo
  have HLL := Aside0.mk hll
  clear hs hO x hlo hll
  go_enter Tryd.func28, Tryd.ntmps28
  go_wp2_with fail
  refine (here_pool HX.out).mono ?_
  rintro e w1 ⟨v1, rfl, h1, hb1⟩
  obtain ⟨ns, hns⟩ : ∃ ns, S.here.map (·.n) = ns := ⟨_, rfl⟩
  have HNS := Aside0.mk hns
  rw [hns] at h1
  have HI1 := Aside0.mk h1
  have HB1 := Aside0.mk hb1
  have hn8 : ns.length ≤ 8 := by rw [← hns, List.length_map]; exact HX.out.here.few
  clear h1 hb1 hns
  go_wp2_with fail
  refine (sort_is w.heap.size v1 ns _ HI1.out (by omega)).mono ?_
  rintro e w2 ⟨rfl, h2, hg2⟩
  have HB2 := Aside0.mk (show Below w.heap.size w w2 from HB1.out.grown hg2 HB1.out.size (fun k hk => (ow_block HI1.out hk).1))
  have HI2 := Aside0.mk h2
  have HSL := Aside0.mk (sortI_len ns)
  obtain ⟨A2, c2, rfl, _⟩ := ow_slice h2
  obtain ⟨q, hq⟩ : ∃ q, sortI ns = q := ⟨_, rfl⟩
  have HQ := Aside0.mk hq
  rw [hq] at HI2 HSL ⊢
  obtain ⟨n, hn⟩ : ∃ n, q.length = n := ⟨_, rfl⟩
  have HN := Aside0.mk hn
  have hn8 : n ≤ 8 := by rw [← hn, HSL.out]; exact hn8
  rw [hn] at HI2 ⊢
  clear h2 hg2 hq hn
  go_wp2_with fail
  go_loopg [13] (n + 1) (fun kq v13 w' => ∃ (i : Int) (T : PSys), v13 = .int .i64 i ∧ Aside0 (0 ≤ i ∧ i ≤ n ∧ (kq : Int) = n + 1 - i) ∧ Aside0 (flushL S q = flushL T (q.drop i.toNat)) ∧ Aside0 (SysM (Gr M w w') w' pp lp dp T) ∧ Aside0 (Frm sTurn M w w') ∧ Aside0 (IS w' w.heap.size (.slice A2 n c2) q) ∧ Aside0 (LooseLe T.d (7000 + 4002 * i.toNat) ∧ T.l.l.length = S.l.l.length))
  case atStart => exact ⟨0, S, rfl, ⟨by omega, by omega, by omega⟩, ⟨rfl⟩, ⟨(HX.out.below HB2.out).mono fun k hk => .inl hk⟩, ⟨Frm.of_below HB2.out⟩, HI2, ⟨HLO.out, rfl⟩⟩
  case round =>
    obtain ⟨i, T, rfl, HI, HFL, HT, HF, HIS, HLT⟩ := hrel
    have hi0 : 0 ≤ i := HI.out.1
    by_cases hlt : i < n
    · obtain ⟨h, hh⟩ : ∃ h, q[i.toNat]? = some h := ⟨_, List.getElem?_eq_getElem (by have := HN.out; omega)⟩
      have HIR := Aside0.mk (show IR wr (.slice A2 n c2) q from by have h := HIS.out; have hN := HN.out; subst hN; exact IR.of h (by omega))
      obtain ⟨g, o, hA, hnq, hc⟩ := HIR.out.at hh
      clear hnq
      have HD := Aside0.mk (show q.drop i.toNat = h :: q.drop (i.toNat + 1) from by
        obtain ⟨h1, h2⟩ := List.getElem?_eq_some_iff.1 hh
        rw [← h2]; exact List.drop_eq_getElem_cons h1)
      clear hh
      subst hA
      go_wp2_with fail
      have HS3 := Aside0.mk (sents_frm HS.out HF.out HO.out)
      refine (flush_pool a (Gr M w wr) pp lp dp T h _ HS3.out (HO.out.gr HS.out (w' := wr)) HT.out (HLT.out.1.mono (by omega))).mono ?_
      rintro e w3 ⟨rfl, x3, f3⟩
      obtain ⟨l1, l2⟩ := flushS_loose (n := h) HT.out.fuse HLT.out.1
      have HL3 := Aside0.mk (And.intro l1 l2)
      have HX3 := Aside0.mk (sys_keepM HF.out.size x3 f3.size)
      have HF3 := Aside0.mk (HF.out.transG f3)
      have HIS3 := Aside0.mk (show IS w3 w.heap.size (.slice (some ⟨g, o, none⟩) n c2) q from by have h := HIS.out; have hN := HN.out; subst hN; exact ow_frm h f3 (by decide))
      clear x3 f3 l1 l2 hc
      obtain ⟨r, hr⟩ : ∃ r, flushS T h = r := ⟨_, rfl⟩
      have HR := Aside0.mk hr
      rw [hr] at HX3 HL3 ⊢
      clear hr
      obtain ⟨T', oo⟩ := r
      simp only at HX3 HL3
      cases oo with
      | some e =>
        have HRR := Aside0.mk (show flushAllS S = (T', some e) from by
          unfold flushAllS
          rw [show sortI (S.here.map (·.n)) = q from by rw [HNS.out, HQ.out], HFL.out, HD.out, flushL_cons_err HR.out])
        rw [show errv a (T', some e).2 = .iface 163 (.pointer (some (a e))) from rfl]
        go_wp2_with fail
        go_ret
        exact ⟨by rw [HRR.out]; rfl, by rw [HRR.out]; exact HX3.out, HF3.out⟩
      | none =>
        rw [show errv a (T', none).2 = .nilIface from rfl]
        go_wp2_with fail
        go_roundg (gk - 1)
        case measure => have := HI.out; omega
        case rel => exact ⟨i + 1, T', rfl, ⟨by omega, by omega, by have := HI.out; omega⟩, ⟨by rw [HFL.out, HD.out, flushL_cons_ok HR.out, show (i + 1).toNat = i.toNat + 1 from by omega]⟩, HX3, HF3, HIS3, ⟨by
          have h1 := HL3.out
          have h2 := HLT.out
          have h3 := HLL.out
          refine ⟨h1.1.mono (by omega), by omega⟩⟩⟩
    · have HFA := Aside0.mk (show flushAllS S = ({ T with d := syncD T.d }, syncE T.d) from by
        unfold flushAllS
        rw [show sortI (S.here.map (·.n)) = q from by rw [HNS.out, HQ.out], HFL.out, List.drop_of_length_le (by have := HN.out; omega), flushL])
      obtain ⟨t1, h1, fs1, ht1, hh1⟩ := HT.out.pool
      obtain ⟨_, g5, _, _, _⟩ := pool_cells ht1
      clear ht1 hh1
      have HS3 := Aside0.mk (sents_frm HS.out HF.out HO.out)
      go_wp2_with fail
      refine (sync_disk a (Gr M w wr) dp T.d _ HS3.out (HO.out.gr HS.out (w' := wr)) HT.out.dsk HT.out.fuse (fun s hs => Nat.le_trans (HLT.out.1 s hs) (by have := HI.out; omega))).mono ?_
      rintro e w3 ⟨rfl, d3, f3⟩
      have hx := HT.out.disk (d3.mono fun k hk => .inl hk) f3 (syncD_ok HT.out.fuse HLT.out.1).1
      have HX3 := Aside0.mk (sys_keepM HF.out.size hx f3.size)
      have HF3 := Aside0.mk (HF.out.transG (frm_sys1 f3))
      clear d3 f3 hx g5
      go_wp2_with fail
      go_ret
      exact ⟨by rw [HFA.out]; rfl, by rw [HFA.out]; exact HX3.out, HF3.out⟩

end Go.Proofs.YtlgpkbhajloajaaDoor.PoolA
/- The table of dirty pages: who is in it. Plain data. No condition. -/
namespace Go.Proofs.YtlgpkbhajloajaaDoor.TabL
open Go.RowKit Go.Proofs.YtlgpkbhajloajaaDoor.See Go.Proofs.YtlgpkbhajloajaaDoor.Mem Go.Proofs.YtlgpkbhajloajaaDoor.Dirty Go.Proofs.YtlgpkbhajloajaaDoor.SysD
set_option linter.unusedVariables false
set_option linter.unusedSimpArgs false

theorem has_cons (d : Int × Int) (ds : List (Int × Int)) (n : Int) : has (d :: ds) n = if d.1 < n then has ds n else d.1 == n := by
  unfold has
  by_cases h : d.1 < n
  · rw [if_pos h]
    simp only [pos, if_pos h, List.getElem?_cons_succ]
  · rw [if_neg h]
    simp only [pos, if_neg h, List.getElem?_cons_zero]

theorem has_iff : ∀ (ds : List (Int × Int)) (n : Int), Rising ds → (has ds n = true ↔ ∃ d ∈ ds, d.1 = n)
  | [], n, _ => by simp [has, pos]
  | d :: ds, n, h => by
    unfold Rising at h
    rw [List.pairwise_cons] at h
    rw [has_cons]
    by_cases hd : d.1 < n
    · rw [if_pos hd, has_iff ds n h.2]
      constructor
      · rintro ⟨x, hx, e⟩; exact ⟨x, List.mem_cons_of_mem _ hx, e⟩
      · rintro ⟨x, hx, e⟩
        rcases List.mem_cons.1 hx with rfl | hx
        · omega
        · exact ⟨x, hx, e⟩
    · rw [if_neg hd]
      constructor
      · intro e; exact ⟨d, List.mem_cons_self, by simpa using e⟩
      · rintro ⟨x, hx, e⟩
        rcases List.mem_cons.1 hx with rfl | hx
        · simpa using e
        · have := h.1 x hx; omega

theorem drop_mem {ds : List (Int × Int)} {n : Int} {x : Int × Int} (hx : x ∈ dropT ds n) : x ∈ ds := by
  unfold dropT at hx
  split at hx
  · exact (List.eraseIdx_sublist _ _).mem hx
  · exact hx
theorem drop_ne : ∀ (ds : List (Int × Int)) (n : Int), Rising ds → ∀ x ∈ dropT ds n, x.1 ≠ n
  | [], n, _, x, hx => by simp [dropT] at hx
  | d :: ds, n, h, x, hx => by
    have h0 := h
    unfold Rising at h
    rw [List.pairwise_cons] at h
    unfold dropT at hx
    by_cases hh : has (d :: ds) n = true
    · rw [if_pos hh] at hx
      by_cases hd : d.1 < n
      · simp only [pos, if_pos hd, List.eraseIdx_cons_succ] at hx
        rcases List.mem_cons.1 hx with rfl | hx
        · omega
        · rw [has_cons, if_pos hd] at hh
          exact drop_ne ds n h.2 x (by unfold dropT; rw [if_pos hh]; exact hx)
      · simp only [pos, if_neg hd, List.eraseIdx_cons_zero] at hx
        have := h.1 x hx
        rw [has_cons, if_neg hd] at hh
        have : d.1 = n := by simpa using hh
        omega
    · rw [if_neg hh] at hx
      intro e
      exact hh ((has_iff _ n h0).2 ⟨x, hx, e⟩)
theorem drop_keep : ∀ {ds : List (Int × Int)} {n : Int}, Rising ds → ∀ {x : Int × Int}, x ∈ ds → x.1 ≠ n → x ∈ dropT ds n
  | [], n, _, x, hx, _ => by cases hx
  | d :: ds, n, h, x, hx, hne => by
    unfold Rising at h
    rw [List.pairwise_cons] at h
    unfold dropT
    split
    · rename_i hh
      by_cases hd : d.1 < n
      · simp only [pos, if_pos hd, List.eraseIdx_cons_succ]
        rcases List.mem_cons.1 hx with rfl | hx
        · exact List.mem_cons_self
        · rw [has_cons, if_pos hd] at hh
          have := drop_keep (n := n) h.2 hx hne
          unfold dropT at this
          rw [if_pos hh] at this
          exact List.mem_cons_of_mem _ this
      · simp only [pos, if_neg hd, List.eraseIdx_cons_zero]
        rw [has_cons, if_neg hd] at hh
        rcases List.mem_cons.1 hx with rfl | hx
        · exact absurd (by simpa using hh) hne
        · exact hx
    · exact hx
theorem add_mem {ds : List (Int × Int)} {n f : Int} {x : Int × Int} (hx : x ∈ addT ds n f) : x ∈ ds ∨ x = (n, f) := by
  unfold addT at hx
  split at hx
  · exact .inl hx
  · rcases List.mem_append.1 hx with hx | hx
    · exact .inl (List.mem_of_mem_take hx)
    · rcases List.mem_cons.1 hx with hx | hx
      · exact .inr hx
      · exact .inl (List.mem_of_mem_drop hx)

end Go.Proofs.YtlgpkbhajloajaaDoor.TabL
/- PoolAhead's rounds as plain data. No condition. -/
namespace Go.Proofs.YtlgpkbhajloajaaDoor.AheadD
open Go.RowKit Go.Proofs.YtlgpkbhajloajaaDoor.See Go.Proofs.YtlgpkbhajloajaaDoor.Mem Go.Proofs.YtlgpkbhajloajaaDoor.Clone Go.Proofs.YtlgpkbhajloajaaDoor.Cell Go.Proofs.YtlgpkbhajloajaaDoor.Page Go.Proofs.YtlgpkbhajloajaaDoor.PageB Go.Proofs.YtlgpkbhajloajaaDoor.PageR Go.Proofs.YtlgpkbhajloajaaDoor.PageL Go.Proofs.YtlgpkbhajloajaaDoor.Disk Go.Proofs.YtlgpkbhajloajaaDoor.DiskN Go.Proofs.YtlgpkbhajloajaaDoor.DiskW Go.Proofs.YtlgpkbhajloajaaDoor.RecD Go.Proofs.YtlgpkbhajloajaaDoor.Dirty Go.Proofs.YtlgpkbhajloajaaDoor.Dirty2 Go.Proofs.YtlgpkbhajloajaaDoor.SysD Go.Proofs.YtlgpkbhajloajaaDoor.SysM Go.Proofs.YtlgpkbhajloajaaDoor.Wal Go.Proofs.YtlgpkbhajloajaaDoor.WalF Go.Proofs.YtlgpkbhajloajaaDoor.GoodD Go.Proofs.YtlgpkbhajloajaaDoor.PoolG Go.Proofs.YtlgpkbhajloajaaDoor.PoolS Go.Proofs.YtlgpkbhajloajaaDoor.FlushG Go.Proofs.YtlgpkbhajloajaaDoor.Fresh Go.Proofs.YtlgpkbhajloajaaDoor.DirtD Go.Proofs.YtlgpkbhajloajaaDoor.PoolA Go.Proofs.YtlgpkbhajloajaaDoor.TabL Go.Proofs.YtlgpkbhajloajaaDoor.DiskL Go.Proofs.YtlgpkbhajloajaaDoor.SortI
set_option linter.unusedVariables false
set_option linter.unusedSimpArgs false

/-- At the start of a round: i records, the pages' last LSNs. -/
structure ASt (i : Nat) (lst : Int → Int) (S : PSys) : Prop where
  good : GoodD.Good S.d 20
  frames : S.frames = 2
  log : S.l.first = 6 ∧ S.l.blocks = 12 ∧ S.l.base = 0 ∧ S.l.l.length = i ∧ S.l.done ≤ i
  room : i ≤ 30
  few : S.here.length ≤ 2
  once : S.here.Pairwise fun a b => a.n ≠ b.n
  here : ∀ f ∈ S.here, 1 ≤ f.n ∧ f.n ≤ 5 ∧ f.es = [] ∧ f.lsn = lst f.n
  lsn : ∀ k, 0 ≤ lst k ∧ lst k ≤ i
  rise : Rising S.t
  tab : ∀ d ∈ S.t, ∃ f ∈ S.here, f.n = d.1
  disk : ∀ k, 1 ≤ k → k ≤ 5 → ∃ x, 0 ≤ x ∧ x ≤ S.l.doneN ∧ readV S.d k = pageBytes x [] ∧ (has S.t k = false → x = lst k)

theorem agood : ASt 0 (fun _ => 0) (sys0 20 6 12 2) :=
  ⟨zgood, rfl, ⟨rfl, rfl, rfl, rfl, Nat.le_refl _⟩, Nat.zero_le _, Nat.zero_le _, List.Pairwise.nil, fun f hf => (List.not_mem_nil hf).elim, fun k => by simp, List.Pairwise.nil, fun d hd => (List.not_mem_nil hd).elim,
    fun k h1 h2 => ⟨0, Int.le_refl _, by unfold Lg.doneN; decide, by rw [show readV (sys0 20 6 12 2).d k = readV (zdisk 20) k from rfl, (readE_zero (n := 20) (i := k) (by omega) (by omega)).2, ErrD.page_zero], fun _ => rfl⟩⟩

/-- Flush, of a page that is here. -/
theorem aflush {i : Nat} {lst : Int → Int} {S : PSys} {n : Int} {f : Fp} (h : ASt i lst S) (hf : findP S.here n = some f) (hfn : f.n = n) (hm : f ∈ S.here) :
    ∃ S', flushS S n = (S', none) ∧ ASt i lst S' ∧ S'.here = S.here ∧ has S'.t n = false ∧ (∀ d ∈ S'.t, d ∈ S.t) := by
  by_cases ht : has S.t n = true
  · obtain ⟨h1, h2, h3, h4⟩ := h.here f hm
    obtain ⟨l1, l2, l3, l4, l5⟩ := h.log
    have hr := h.room
    obtain ⟨S', f1, f2, f3, f4, f5, f6, f7, _⟩ := flush_good h.good hf (by omega) (by omega) ht (by rw [l1]; decide) (by rw [l1]; omega) (by omega) (by rw [h3]; simp)
    have hrise : Rising S'.t := by rw [f4]; exact dropT_rising h.rise n
    have hno : has S'.t n = false := by
      rw [Bool.eq_false_iff]
      intro e
      obtain ⟨d, hd, e⟩ := (has_iff _ n hrise).1 e
      rw [f4] at hd
      exact drop_ne S.t n h.rise d hd e
    have hsub : ∀ d ∈ S'.t, d ∈ S.t := fun d hd => by rw [f4] at hd; exact drop_mem hd
    have hlsn := h.lsn n
    have hdone : S.l.doneN ≤ S'.l.doneN ∧ lst n ≤ S'.l.doneN := by
      rw [f7]
      split
      · rename_i hlt
        unfold Lg.doneN at *
        simp only
        rw [l3, l4]
        omega
      · rename_i hlt
        rw [h4, hfn] at hlt
        exact ⟨Int.le_refl _, by omega⟩
    refine ⟨S', f1, ⟨f2, by rw [f6]; exact h.frames, ?_, hr, by rw [f5]; exact h.few, by rw [f5]; exact h.once, by rw [f5]; exact h.here, h.lsn, hrise, fun d hd => by rw [f5]; exact h.tab d (hsub d hd), fun k k1 k2 => ?_⟩, f5, hno, hsub⟩
    · rw [f7]
      split
      · exact ⟨l1, l2, l3, l4, by show S.l.l.length ≤ i; omega⟩
      · exact ⟨l1, l2, l3, l4, l5⟩
    · rw [f3 k (by rw [l1]; omega)]
      by_cases hk : k = n
      · subst hk
        rw [if_pos rfl, h3, h4, hfn]
        exact ⟨lst k, hlsn.1, hdone.2, rfl, fun _ => rfl⟩
      · rw [if_neg hk]
        obtain ⟨x, x1, x2, x3, x4⟩ := h.disk k k1 k2
        refine ⟨x, x1, Int.le_trans x2 hdone.1, x3, fun e => x4 ?_⟩
        rw [Bool.eq_false_iff] at e ⊢
        intro e2
        obtain ⟨d, hd, e3⟩ := (has_iff _ k h.rise).1 e2
        exact e ((has_iff _ k hrise).2 ⟨d, by
          rw [f4]
          exact drop_keep h.rise hd (by rw [e3]; exact hk), e3⟩)
  · have hn : has S.t n = false := Bool.eq_false_iff.2 ht
    refine ⟨S, ?_, h, rfl, hn, fun d hd => hd⟩
    unfold flushS
    rw [hf]
    simp [hn]

theorem find_once : ∀ {l : List Fp} {f : Fp}, (l.Pairwise fun a b => a.n ≠ b.n) → f ∈ l → findP l f.n = some f
  | [], f, _, h => by cases h
  | x :: xs, f, ho, h => by
    rw [List.pairwise_cons] at ho
    unfold findP
    rw [List.find?_cons]
    rcases List.mem_cons.1 h with rfl | h
    · simp
    · have hne : x.n ≠ f.n := ho.1 f h
      simp only [hne, decide_false]
      exact find_once ho.2 h

/-- A page is given up. -/
theorem aevict {i : Nat} {lst : Int → Int} {S : PSys} {hint : Int} (h : ASt i lst S) (hr : S.frames ≤ S.here.length) :
    ∃ S', evictS S hint = (S', none) ∧ ASt i lst S' ∧ S'.here.length ≤ 1 ∧ ∀ f ∈ S'.here, f ∈ S.here := by
  have hlen : S.here.length = 2 := by have := h.few; have := h.frames; omega
  have hk : evictK S hint < S.here.length := by unfold evictK; exact Nat.mod_lt _ (by omega)
  obtain ⟨k, hkk⟩ : ∃ k, evictK S hint = k := ⟨_, rfl⟩
  rw [hkk] at hk
  have hm : S.here[k] ∈ S.here := List.getElem_mem hk
  obtain ⟨S1, q1, q2, q3, q4, q5⟩ := aflush h (find_once h.once hm) rfl hm
  have hsub : ∀ f ∈ S.here.eraseIdx k, f ∈ S.here := fun f hf => (List.eraseIdx_sublist _ _).mem hf
  refine ⟨{ S1 with here := S1.here.eraseIdx k }, ?_, ⟨q2.good, q2.frames, q2.log, q2.room, ?_, ?_, ?_, q2.lsn, q2.rise, fun d hd => ?_, q2.disk⟩, ?_, ?_⟩
  · unfold evictS
    rw [hkk, List.getElem?_eq_getElem hk]
    simp only [q1]
  · show (S1.here.eraseIdx k).length ≤ 2
    rw [q3, List.length_eraseIdx]; split <;> omega
  · show (S1.here.eraseIdx k).Pairwise _
    rw [q3]
    exact h.once.sublist (List.eraseIdx_sublist _ _)
  · show ∀ f ∈ S1.here.eraseIdx k, _
    rw [q3]
    exact fun f hf => h.here f (hsub f hf)
  · obtain ⟨f, hf, e⟩ := q2.tab d hd
    rw [q3] at hf
    refine ⟨f, ?_, e⟩
    show f ∈ S1.here.eraseIdx k
    rw [q3]
    have hne : f ≠ S.here[k] := fun e2 => by
      rw [Bool.eq_false_iff] at q4
      exact q4 ((has_iff _ _ q2.rise).2 ⟨d, hd, by rw [← e, e2]⟩)
    rw [List.mem_eraseIdx_iff_getElem]
    obtain ⟨j, hj, e3⟩ := List.getElem_of_mem hf
    exact ⟨j, hj, fun e4 => hne (by subst e4; exact e3.symm), e3⟩
  · show (S1.here.eraseIdx k).length ≤ 1
    rw [q3, List.length_eraseIdx, if_pos hk]; omega
  · show ∀ f ∈ S1.here.eraseIdx k, _
    rw [q3]
    exact hsub

theorem find_some {l : List Fp} {n : Int} {f : Fp} (h : findP l n = some f) : f ∈ l ∧ f.n = n := by
  unfold findP at h
  exact ⟨List.mem_of_find?_eq_some h, by simpa using List.find?_some h⟩
theorem find_none {l : List Fp} {n : Int} (h : findP l n = none) : ∀ f ∈ l, f.n ≠ n := by
  unfold findP at h
  rw [List.find?_eq_none] at h
  exact fun f hf e => h f hf (decide_eq_true e)
theorem find_last {l : List Fp} {n : Int} {f : Fp} (h : findP l n = none) (hf : f.n = n) : findP (l ++ [f]) n = some f := by
  unfold findP at h ⊢
  rw [List.find?_append, h]
  simp [hf]

/-- A page that comes. -/
theorem atail {i : Nat} {lst : Int → Int} {S : PSys} {n : Int} (h : ASt i lst S) (h1 : 1 ≤ n) (h2 : n ≤ 5) (hn : findP S.here n = none) (hl : S.here.length ≤ 1) :
    ∃ S', getTail S n = (S', (lst n, []), .fine) ∧ ASt i lst S' ∧ findP S'.here n = some ⟨n, lst n, []⟩ := by
  obtain ⟨x, x1, x2, x3, x4⟩ := h.disk n h1 h2
  have hx : x = lst n := x4 (by
    rw [Bool.eq_false_iff]
    intro e
    obtain ⟨d, hd, e2⟩ := (has_iff _ n h.rise).1 e
    obtain ⟨f, hf, e3⟩ := h.tab d hd
    exact find_none hn f hf (e3.trans e2))
  have hls := h.lsn n
  have hro := h.room
  have hpb : readPage (pageBytes x []) = some (x, []) := page_back ⟨by unfold pageOk headOk; simp; omega, fun e he => (List.not_mem_nil he).elim⟩
  refine ⟨{ S with here := S.here ++ [⟨n, lst n, []⟩] }, ?_, ⟨h.good, h.frames, h.log, h.room, ?_, ?_, ?_, h.lsn, h.rise, fun d hd => ?_, h.disk⟩, find_last hn rfl⟩
  · unfold getTail
    rw [h.good.readE (by omega) (by omega)]
    simp only
    rw [x3, hpb, hx]
  · show (S.here ++ [_]).length ≤ 2
    rw [List.length_append]; simp; omega
  · show (S.here ++ [_]).Pairwise _
    rw [List.pairwise_append]
    refine ⟨h.once, List.pairwise_singleton _ _, fun a ha b hb => ?_⟩
    rw [List.mem_singleton] at hb
    subst hb
    exact find_none hn a ha
  · show ∀ f ∈ S.here ++ [_], _
    intro f hf
    rcases List.mem_append.1 hf with hf | hf
    · exact h.here f hf
    · rw [List.mem_singleton] at hf
      subst hf
      exact ⟨h1, h2, rfl, rfl⟩
  · obtain ⟨f, hf, e⟩ := h.tab d hd
    exact ⟨f, List.mem_append_left _ hf, e⟩

theorem aget {i : Nat} {lst : Int → Int} {S : PSys} {n hint : Int} (h : ASt i lst S) (h1 : 1 ≤ n) (h2 : n ≤ 5) :
    ∃ S', getS S n hint = (S', (lst n, []), .fine) ∧ ASt i lst S' ∧ ∃ f, findP S'.here n = some f := by
  cases hf : findP S.here n with
  | some f =>
    obtain ⟨m1, m2⟩ := find_some hf
    obtain ⟨_, _, e1, e2⟩ := h.here f m1
    exact ⟨S, by rw [getS_found hf, e1, e2, m2], h, f, hf⟩
  | none =>
    by_cases hr : S.frames ≤ S.here.length
    · obtain ⟨S', v1, v2, v3, v4⟩ := aevict (hint := hint) h hr
      have hn' : findP S'.here n = none := by
        unfold findP
        rw [List.find?_eq_none]
        intro f hf2 e
        exact find_none hf f (v4 f hf2) (of_decide_eq_true e)
      obtain ⟨S2, t1, t2, t3⟩ := atail v2 h1 h2 hn' v3
      exact ⟨S2, by rw [getS_evict hf (by omega) hr v1, t1], t2, _, t3⟩
    · have := h.frames
      obtain ⟨S2, t1, t2, t3⟩ := atail h h1 h2 hf (by omega)
      exact ⟨S2, by rw [getS_room hf (by omega) hr, t1], t2, _, t3⟩

theorem has_add {ds : List (Int × Int)} {n f k : Int} (h : Rising ds) : has (addT ds n f) k = false → has ds k = false := fun e => by
  rw [Bool.eq_false_iff] at e ⊢
  intro e2
  obtain ⟨d, hd, e3⟩ := (has_iff _ k h).1 e2
  refine e ((has_iff _ k (addT_rising h n f)).2 ⟨d, ?_, e3⟩)
  unfold addT
  split
  · exact hd
  · rw [← List.take_append_drop (pos ds n) ds] at hd
    rcases List.mem_append.1 hd with hd | hd
    · exact List.mem_append_left _ hd
    · exact List.mem_append_right _ (List.mem_cons_of_mem _ hd)
theorem has_add_self {ds : List (Int × Int)} {n f : Int} (h : Rising ds) : has (addT ds n f) n = true := by
  by_cases e : has ds n = true
  · unfold addT; rw [if_pos e]; exact e
  · refine (has_iff _ n (addT_rising h n f)).2 ⟨(n, f), ?_, rfl⟩
    unfold addT
    rw [if_neg e]
    exact List.mem_append_right _ List.mem_cons_self

/-- A record, and the page that it changes. -/
theorem astep {i : Nat} {lst : Int → Int} {S : PSys} {n : Int} {f : Fp} (h : ASt i lst S) (hi : i < 30) (h1 : 1 ≤ n) (h2 : n ≤ 5) (hf : findP S.here n = some f) :
    appendE S.l r0 = none ∧ appendN S.l r0 = (i : Int) + 1 ∧ appendL S.l r0 = (S1 S).l ∧ ∃ S2, setS (S1 S) n ((i : Int) + 1) [] = (S2, none) ∧ ASt (i + 1) (fun k => if k = n then (i : Int) + 1 else lst k) S2 := by
  obtain ⟨l1, l2, l3, l4, l5⟩ := h.log
  obtain ⟨a1, a2, a3⟩ := append_room (L := S.l) r0_ok (by unfold Lg.room Lg.last; rw [l2, l3]; omega)
  have hp : pageOk ((i : Int) + 1) [] = true := by unfold pageOk headOk; simp; omega
  refine ⟨a1, by rw [a2]; unfold Lg.last; rw [l3, l4]; omega, a3, _, setS_ok (f := f) hf hp, ⟨h.good, h.frames, ⟨l1, l2, l3, ?_, ?_⟩, by omega, ?_, ?_, ?_, fun k => ?_, addT_rising h.rise _ _, fun d hd => ?_, fun k k1 k2 => ?_⟩⟩
  · show (S.l.l ++ [r0]).length = i + 1
    rw [List.length_append, l4]; rfl
  · show S.l.done ≤ i + 1
    omega
  · show (S.here.map _).length ≤ 2
    rw [List.length_map]; exact h.few
  · show (S.here.map _).Pairwise _
    rw [List.pairwise_map]
    refine h.once.imp fun {a b} hab => ?_
    have hn : ∀ x : Fp, (if x.n = n then (⟨n, (i : Int) + 1, []⟩ : Fp) else x).n = x.n := fun x => by split <;> simp [*]
    rw [hn, hn]; exact hab
  · show ∀ g ∈ S.here.map _, _
    intro g hg
    obtain ⟨y, hy, rfl⟩ := List.mem_map.1 hg
    split
    · exact ⟨h1, h2, rfl, by simp⟩
    · rename_i hne
      obtain ⟨e1, e2, e3, e4⟩ := h.here y hy
      exact ⟨e1, e2, e3, by first | exact e4 | (rw [if_neg hne]; exact e4)⟩
  · have := h.lsn k
    split <;> omega
  · obtain ⟨m1, m2⟩ := find_some hf
    have hex : ∃ y ∈ S.here, y.n = d.1 := by
      rcases add_mem hd with hd | hd
      · exact h.tab d hd
      · exact ⟨f, m1, by rw [m2, hd]⟩
    obtain ⟨y, hy, e⟩ := hex
    refine ⟨_, List.mem_map.2 ⟨y, hy, rfl⟩, ?_⟩
    split
    · rename_i hh; rw [← hh, e]
    · exact e
  · obtain ⟨x, x1, x2, x3, x4⟩ := h.disk k k1 k2
    refine ⟨x, x1, x2, x3, fun e => ?_⟩
    by_cases hk : k = n
    · subst hk
      have e' : has (addT S.t k ((i : Int) + 1)) k = false := e
      rw [has_add_self h.rise] at e'
      cases e'
    · rw [if_neg hk]
      exact x4 (has_add h.rise e)

/-- One after the other. -/
theorem aflushL {i : Nat} {lst : Int → Int} : ∀ (ns : List Int) {S : PSys}, ASt i lst S → (∀ n ∈ ns, ∃ f ∈ S.here, f.n = n) →
    ∃ S', flushL S ns = (S', none) ∧ ASt i lst S' ∧ S'.here = S.here ∧ (∀ n ∈ ns, has S'.t n = false) ∧ (∀ d ∈ S'.t, d ∈ S.t)
  | [], S, h, _ => ⟨S, by rw [flushL], h, rfl, fun n hn => (List.not_mem_nil hn).elim, fun d hd => hd⟩
  | n :: ns, S, h, hh => by
    obtain ⟨f, hf, e⟩ := hh n List.mem_cons_self
    subst e
    obtain ⟨S1, q1, q2, q3, q4, q5⟩ := aflush h (find_once h.once hf) rfl hf
    obtain ⟨S2, p1, p2, p3, p4, p5⟩ := aflushL ns q2 (fun m hm => by rw [q3]; exact hh m (List.mem_cons_of_mem _ hm))
    refine ⟨S2, by rw [flushL_cons_ok q1, p1], p2, by rw [p3, q3], fun m hm => ?_, fun d hd => q5 d (p5 d hd)⟩
    rcases List.mem_cons.1 hm with rfl | hm
    · rw [Bool.eq_false_iff] at q4 ⊢
      intro e2
      obtain ⟨d, hd, e3⟩ := (has_iff _ _ p2.rise).1 e2
      exact q4 ((has_iff _ _ q2.rise).2 ⟨d, p5 d hd, e3⟩)
    · exact p4 m hm

theorem evictS_d (S : PSys) (hint : Int) : (evictS S hint).1.d = S.d ∨ ∃ n, (evictS S hint).1.d = (flushS S n).1.d := by
  unfold evictS
  split
  · exact .inl rfl
  · rename_i f _
    refine .inr ⟨f.n, ?_⟩
    split
    · rename_i S' e hq; rw [hq]
    · rename_i S' hq; rw [hq]
theorem getS_d (S : PSys) (n hint : Int) : (getS S n hint).1.d = S.d ∨ (getS S n hint).1.d = (evictS S hint).1.d := by
  unfold getS
  split
  · exact .inl rfl
  · split
    · exact .inl rfl
    · by_cases hr : S.frames ≤ S.here.length
      · rw [if_pos hr]
        refine .inr ?_
        simp only
        split
        · rfl
        · split
          · rfl
          · split <;> rfl
      · rw [if_neg hr]
        refine .inl ?_
        simp only
        split
        · rfl
        · split <;> rfl
/-- How loose a disk is behind a Get. -/
theorem getS_loose {S : PSys} {n hint : Int} {m : Nat} (hf : FuseOk S.d) (hl : LooseLe S.d m) : LooseLe (getS S n hint).1.d (m + S.l.l.length + 2) := by
  rcases getS_d S n hint with h | h
  · rw [h]; exact hl.mono (by omega)
  · rw [h]
    rcases evictS_d S hint with h | ⟨k, h⟩
    · rw [h]; exact hl.mono (by omega)
    · rw [h]; exact (flushS_loose hf hl).1

theorem tab_few {i : Nat} {lst : Int → Int} {S : PSys} (h : ASt i lst S) : S.t.length ≤ 70000 := by
  have hn : ∀ (l : List (Int × Int)), Rising l → (∀ d ∈ l, 1 ≤ d.1 ∧ d.1 ≤ 5) → l.length ≤ 5 := fun l hr hb => by
    have : ∀ (l : List (Int × Int)) (k : Int), Rising l → (∀ d ∈ l, k ≤ d.1 ∧ d.1 ≤ 5) → k ≤ 6 → (l.length : Int) ≤ 6 - k := by
      intro l
      induction l with
      | nil => intro k _ _ hk; simp; omega
      | cons d l ih =>
        intro k hr hb hk
        unfold Rising at hr
        rw [List.pairwise_cons] at hr
        have h1 := hb d List.mem_cons_self
        have := ih (d.1 + 1) hr.2 (fun x hx => ⟨by have := hr.1 x hx; omega, (hb x (List.mem_cons_of_mem _ hx)).2⟩) (by omega)
        rw [List.length_cons]
        omega
    have := this l 1 hr hb (by omega)
    omega
  have := hn S.t h.rise (fun d hd => by
    obtain ⟨f, hf, e⟩ := h.tab d hd
    obtain ⟨h1, h2, _⟩ := h.here f hf
    omega)
  omega

theorem done_few {i : Nat} {lst : Int → Int} {S : PSys} (h : ASt i lst S) : S.l.doneN ≤ 30 := by
  obtain ⟨l1, l2, l3, l4, l5⟩ := h.log
  have := h.room
  unfold Lg.doneN
  omega

theorem sortI_mem (xs : List Int) (n : Int) : n ∈ sortI xs ↔ n ∈ xs := by unfold sortI; exact List.mem_mergeSort
theorem sync_loose {d : Dsk} {n : Nat} (h : GoodD.Good d n) : looseN (syncD d).l (syncD d).l.length = [] := by
  have hd : (syncD d).l = d.l.map fastS := by
    unfold syncD
    rw [if_neg (by rw [h.on]; decide), if_pos h.spendB]
  rw [hd]
  unfold looseN
  rw [List.filterMap_eq_nil_iff]
  intro j _
  unfold looseOne
  rw [List.getElem?_map]
  cases d.l[j]? with
  | none => rfl
  | some s => simp [fastS]

/-- FlushAll. -/
theorem aall {i : Nat} {lst : Int → Int} {S : PSys} (h : ASt i lst S) : ∃ S', flushAllS S = (S', none) ∧ S'.t = [] ∧ looseN S'.d.l S'.d.l.length = [] ∧ ∀ k, 1 ≤ k → k ≤ 5 → readE S'.d k = none ∧ readV S'.d k = pageBytes (lst k) [] := by
  obtain ⟨S1, q1, q2, q3, q4, q5⟩ := aflushL (sortI (S.here.map (·.n))) h (fun n hn => by
    have hm : n ∈ S.here.map (·.n) := (sortI_mem _ _).1 hn
    obtain ⟨f, hf, e⟩ := List.mem_map.1 hm
    exact ⟨f, hf, e⟩)
  obtain ⟨s1, s2, s3⟩ := q2.good.sync
  have ht : S1.t = [] := by
    rw [List.eq_nil_iff_forall_not_mem]
    intro d hd
    obtain ⟨f, hf, e⟩ := q2.tab d hd
    rw [q3] at hf
    have := q4 f.n ((sortI_mem _ _).2 (List.mem_map.2 ⟨f, hf, rfl⟩))
    rw [Bool.eq_false_iff] at this
    exact this ((has_iff _ _ q2.rise).2 ⟨d, hd, e.symm⟩)
  refine ⟨{ S1 with d := syncD S1.d }, by unfold flushAllS; rw [q1]; simp only [s1], ht, sync_loose q2.good, fun k h1 h2 => ⟨s2.readE (by omega) (by omega), ?_⟩⟩
  show readV (syncD S1.d) k = _
  rw [s3 k]
  obtain ⟨x, x1, x2, x3, x4⟩ := q2.disk k h1 h2
  rw [x3, x4]
  rw [ht]
  rfl

end Go.Proofs.YtlgpkbhajloajaaDoor.AheadD
