/- Joined texts: Pool1, Pool2, Pool3, Wal, WalF, SysM, PoolF, PoolE, PoolG, PoolS. -/
import Derived.Test.YtlgpkbhajloajaaDoorJ2
import Derived.Test.YtlgpkbhajloajaaDoorJ3
import Derived.Test.YtlgpkbhajloajaaDoorJ4
/- Frames of a pool in memory; the contracts of pool.at, pool.own. No condition. -/
namespace Go.Proofs.YtlgpkbhajloajaaDoor.Pool1
open Go.RowKit Go.Proofs.YtlgpkbhajloajaaDoorW.PrintWords Go.Proofs.YtlgpkbhajloajaaDoorW.PrintLast Go.Proofs.YtlgpkbhajloajaaDoorW.PrintMore
open Go.Proofs.YtlgpkbhajloajaaDoor.See Go.Proofs.YtlgpkbhajloajaaDoor.Mem Go.Proofs.YtlgpkbhajloajaaDoor.Clone Go.Proofs.YtlgpkbhajloajaaDoor.Cell Go.Proofs.YtlgpkbhajloajaaDoor.Page Go.Proofs.YtlgpkbhajloajaaDoor.PageB Go.Proofs.YtlgpkbhajloajaaDoor.PageR Go.Proofs.YtlgpkbhajloajaaDoor.Disk Go.Proofs.YtlgpkbhajloajaaDoor.DiskN
attribute [local go_sem] max2_imax min2_imin max_two min_two
set_option linter.unusedVariables false
set_option linter.unusedSimpArgs false

/-- A page that is here: its number, its last record, its keys and their slice. -/
structure Fr where
  n : Int
  lsn : Int
  v : Value
  es : List (Int × Int)

def frCells (fs : List Fr) : List Value := fs.flatMap fun f => [.int .i64 f.n, .int .i64 f.lsn, f.v]

theorem frCells_len (fs : List Fr) : (frCells fs).length = fs.length * 3 := by
  induction fs with
  | nil => rfl
  | cons r rs ih => unfold frCells at ih ⊢; simp [List.flatMap_cons, ih]; omega

theorem frCells_append (a b : List Fr) : frCells (a ++ b) = frCells a ++ frCells b := by unfold frCells; rw [List.flatMap_append]

theorem frCells_at : ∀ (fs : List Fr) (i : Nat) (f : Fr), fs[i]? = some f → (frCells fs)[i * 3]? = some (.int .i64 f.n) ∧ (frCells fs)[i * 3 + 1]? = some (.int .i64 f.lsn) ∧ (frCells fs)[i * 3 + 2]? = some f.v
  | [], i, t, h => by simp at h
  | s :: ps, 0, t, h => by
    simp at h; subst h
    exact ⟨by simp [frCells, List.flatMap_cons], by simp [frCells, List.flatMap_cons], by simp [frCells, List.flatMap_cons]⟩
  | s :: ps, i + 1, t, h => by
    have := frCells_at ps i t (by simpa using h)
    have e : frCells (s :: ps) = [.int .i64 s.n, .int .i64 s.lsn, s.v] ++ frCells ps := by simp [frCells, List.flatMap_cons]
    rw [e, List.getElem?_append_right (by simp; omega), List.getElem?_append_right (by simp; omega), List.getElem?_append_right (by simp; omega)]
    simp only [List.length_cons, List.length_nil]
    rw [show (i + 1) * 3 - (0 + 1 + 1 + 1) = i * 3 from by omega, show (i + 1) * 3 + 1 - (0 + 1 + 1 + 1) = i * 3 + 1 from by omega, show (i + 1) * 3 + 2 - (0 + 1 + 1 + 1) = i * 3 + 2 from by omega]
    exact this

/-- Frames in memory. -/
structure FrsM (w : World) (v : Value) (fs : List Fr) : Prop where
  row : w.ownsRow 0 74 3 v fs.length (frCells fs)
  pages : ∀ f ∈ fs, P2 w 109 f.v f.es
  few : fs.length ≤ 8

set_option maxHeartbeats 1000000 in
set_option maxRecDepth 100000 in
theorem clos_calls (b : Nat) (n m lsn : Int) (v : Value) (A : Option Addr) (l c : Nat) (hv : v = .slice A l c) (w : World) (hc : w.cell? ⟨b, 0, none⟩ = some (.int .i64 n)) :
    Calls Tryd.prog 55 #[.agg #[.int .i64 m, .int .i64 lsn, v], .pointer (some ⟨b, 0, none⟩)] w fun e w' => e = .returned (.bool (m == n)) ∧ Below w.heap.size w w' := by
  subst hv
  have hlt : b < w.heap.size := World.block_lt_of_cell? _ _ hc
  go_enter Tryd.func55, Tryd.ntmps55
  go_wp2
  go_ret
  exact ⟨by simp, by repeat (first | exact Below.refl _ _ | apply pw_below_drewN | apply below_drew1 | apply below_alloc)⟩

/-- Where a page is; -1: it is not here. -/
def idxFrom (n : Int) : List Fr → Int → Int
  | [], _ => -1
  | f :: fs, k => if f.n = n then k else idxFrom n fs (k + 1)
def idxOf (fs : List Fr) (n : Int) : Int := idxFrom n fs 0

theorem idxFrom_hit (n : Int) : ∀ (fs : List Fr) (k : Int) (i : Nat) (f : Fr), (∀ j g, j < i → fs[j]? = some g → g.n ≠ n) → fs[i]? = some f → f.n = n → idxFrom n fs k = k + i
  | [], k, i, f, _, h, _ => by simp at h
  | g :: fs, k, 0, f, _, h, hn => by
    simp at h; subst h
    unfold idxFrom; rw [if_pos hn]; omega
  | g :: fs, k, i + 1, f, hj, h, hn => by
    unfold idxFrom
    rw [if_neg (hj 0 g (by omega) rfl), idxFrom_hit n fs (k + 1) i f (fun j q hq hq2 => hj (j + 1) q (by omega) (by simpa using hq2)) (by simpa using h) hn]
    omega
theorem idxFrom_none (n : Int) : ∀ (fs : List Fr) (k : Int), (∀ f ∈ fs, f.n ≠ n) → idxFrom n fs k = -1
  | [], k, _ => rfl
  | g :: fs, k, h => by
    unfold idxFrom
    rw [if_neg (h g (List.mem_cons_self ..)), idxFrom_none n fs (k + 1) fun f hf => h f (List.mem_cons_of_mem _ hf)]

theorem FrsM.below {w w' : World} {v : Value} {fs : List Fr} (h : FrsM w v fs) (hb : Below w.heap.size w w') : FrsM w' v fs := ⟨ow_below h.row hb, fun f hf => P2.below (h.pages f hf) hb, h.few⟩

/-- What is read of a frame. -/
theorem FrsM.at {w : World} {A : Option Addr} {l cap : Nat} {fs : List Fr} (h : FrsM w (.slice A l cap) fs) {i : Nat} {f : Fr} (hi : fs[i]? = some f) :
    ∃ g, A = some ⟨g, 0, none⟩ ∧ l = fs.length ∧ w.cell? ⟨g, i * 3, none⟩ = some (.int .i64 f.n) ∧ w.cell? ⟨g, i * 3 + 1, none⟩ = some (.int .i64 f.lsn) ∧ w.cell? ⟨g, i * 3 + 2, none⟩ = some f.v ∧ ∃ A' c', f.v = .slice A' f.es.length c' := by
  have hlt : i < fs.length := (List.getElem?_eq_some_iff.1 hi).1
  obtain ⟨g, c2, hv, _, _⟩ := h.row.form (by omega)
  injection hv with h1 h2 h3
  subst h1 h2 h3
  obtain ⟨c0, c1, c2⟩ := frCells_at fs i f hi
  obtain ⟨A', c', hf, _⟩ := ow_slice (h.pages f (List.mem_of_getElem? hi)).1
  refine ⟨g, rfl, rfl, ?_, ?_, ?_, A', c', hf⟩
  · rw [h.row.cellAt _ (by omega)]; exact c0
  · rw [h.row.cellAt _ (by omega)]; exact c1
  · rw [h.row.cellAt _ (by omega)]; exact c2

set_option maxHeartbeats 1000000 in
set_option maxRecDepth 100000 in
theorem index_calls (v : Value) (fs : List Fr) (b : Nat) (n : Int) (w : World) (hf : FrsM w v fs) (hc : w.cell? ⟨b, 0, none⟩ = some (.int .i64 n)) :
    Calls Tryd.prog 54 #[v, .func (.func 55) #[] #[.pointer (some ⟨b, 0, none⟩)]] w fun e w' => e = .returned (.int .i64 (idxOf fs n)) ∧ Below w.heap.size w w' := by
  obtain ⟨A, cap, rfl, _⟩ := ow_slice hf.row
  obtain ⟨l, hl⟩ : ∃ l, fs.length = l := ⟨_, rfl⟩
  have HL := Aside0.mk hl
  have HF := Aside0.mk hf
  have HC := Aside0.mk hc
  have hl8 : l ≤ 8 := by rw [← hl]; exact hf.few
  rw [hl]
  clear hf hc hl
  go_enter Tryd.func54, Tryd.ntmps54
  go_wp2_with fail
  go_loopg [8] (l + 1) (fun kq v8 w' => ∃ i : Int, v8 = .int .i64 i ∧ Aside0 (0 ≤ i ∧ i ≤ l ∧ (kq : Int) = l + 1 - i) ∧ Aside0 (∀ (j : Nat) (g : Fr), (j : Int) < i → fs[j]? = some g → g.n ≠ n) ∧ Aside0 (Below w.heap.size w w'))
  case atStart => exact ⟨0, rfl, ⟨by omega, by omega, by omega⟩, ⟨fun j g h => by omega⟩, ⟨Below.refl _ _⟩⟩
  case round =>
    obtain ⟨i, rfl, HI, HJ, HB⟩ := hrel
    have hi0 : 0 ≤ i := HI.out.1
    by_cases hlt : i < l
    · obtain ⟨f, hf⟩ : ∃ f, fs[i.toNat]? = some f := ⟨_, List.getElem?_eq_getElem (by have := HL.out; omega)⟩
      obtain ⟨g, rfl, hll, hd0, hd1, hd2, A', c', hfv⟩ := (HF.out.below HB.out).at hf
      obtain ⟨fn, fl, fv, fe⟩ := f
      simp only at hd0 hd1 hd2 hfv
      subst hfv
      have HFI := Aside0.mk hf
      clear hf hll
      go_wp2_with fail
      refine (clos_calls b n fn fl _ _ _ _ rfl _ (pw_cell_below HB.out HC.out)).mono ?_
      rintro e w1 ⟨rfl, hb⟩
      replace HB := Aside0.mk (below_step HB.out hb)
      clear hb
      by_cases hn : fn = n
      · have hbt : (fn == n) = true := by simpa using hn
        have HR := Aside0.mk (show idxOf fs n = i by unfold idxOf; rw [idxFrom_hit n fs 0 i.toNat _ (fun j g hj hg => HJ.out j g (by omega) hg) HFI.out hn]; omega)
        clear hn
        go_wp2_with fail
        go_ret
        exact ⟨by simp [HR.out], HB.out⟩
      · have hbt : (fn == n) = false := by simpa using hn
        have HN := Aside0.mk hn
        clear hn
        go_wp2_with fail
        go_roundg (gk - 1)
        case measure => have := HI.out; omega
        case rel =>
          refine ⟨i + 1, rfl, ⟨by omega, by omega, by have := HI.out; omega⟩, ⟨fun j g hj hg => ?_⟩, HB⟩
          rcases (show (j : Int) < i ∨ j = i.toNat by omega) with h | h
          · exact HJ.out j g h hg
          · subst h
            rw [HFI.out] at hg
            injection hg with hg
            subst hg
            exact HN.out
    · have HR := Aside0.mk (show idxOf fs n = -1 by
        unfold idxOf
        rw [idxFrom_none n fs 0 fun f hf => by
          obtain ⟨j, hj, he⟩ := List.getElem_of_mem hf
          exact HJ.out j f (by have := HI.out; have := HL.out; omega) (by rw [List.getElem?_eq_getElem hj, he])])
      go_wp2_with fail
      go_ret
      exact ⟨by simp [HR.out], HB.out⟩

set_option maxHeartbeats 1000000 in
set_option maxRecDepth 100000 in
theorem at_pool (p : Nat) (v : Value) (fs : List Fr) (n : Int) (w : World) (hf : FrsM w v fs) (hc : w.cell? ⟨p, 4, none⟩ = some v) :
    Calls Tryd.prog 30 #[.pointer (some ⟨p, 0, none⟩), .int .i64 n] w fun e w' => e = .returned (.int .i64 (idxOf fs n)) ∧ Below w.heap.size w w' := by
  obtain ⟨A, cap, hv, _⟩ := ow_slice hf.row
  have HF := Aside0.mk hf
  have hlt : p < w.heap.size := World.block_lt_of_cell? _ _ hc
  clear hf
  go_enter Tryd.func30, Tryd.ntmps30
  go_wp2_with fail
  subst hv
  refine (index_calls _ fs w.heap.size n _ (by exact HF.out.below (below_alloc (Below.refl _ _) _)) (by simp)).mono ?_
  rintro e w1 ⟨rfl, hb⟩
  have HB := Aside0.mk (below_step (below_alloc (Below.refl w.heap.size w) (.cells #[.int .i64 n] 3)) hb)
  clear hb
  go_wp2_with fail
  go_ret
  exact ⟨by simp, HB.out⟩

set_option maxHeartbeats 1000000 in
set_option maxRecDepth 100000 in
theorem own_calls (lsn : Int) (v : Value) (es : List (Int × Int)) (w : World) (hp : P2 w 109 v es) :
    Calls Tryd.prog 31 #[.agg #[.int .i64 lsn, v]] w fun e w' => ∃ v', e = .returned (.agg #[.int .i64 lsn, v']) ∧ P2 w' 109 v' es ∧ Below w.heap.size w w' := by
  obtain ⟨A, cap, hv, _⟩ := ow_slice hp.1
  have HP := Aside0.mk hp
  clear hp
  go_enter Tryd.func31, Tryd.ntmps31
  go_wp2_with fail
  subst hv
  go_region_held3 (fun w' => w'.cell? ⟨w.heap.size, 0, none⟩ = some (.int .i64 lsn) ∧ w'.cell? ⟨w.heap.size, 1, none⟩ = some (.slice A es.length cap))
    (refine ⟨?_, ?_⟩ <;> (first | go_keep | exact hk0 | exact hk1 | (rw [World.cell?_setCell_other _ _ _ _ (by simp), World.cell?_setCell_other _ _ _ _ (by simp)]; first | exact hk0 | exact hk1)))
    (first | (go_at_call 56; refine (clone_entries _ es.length (cells2 es) _ (P2.rd (P2.below HP.out (by repeat (first | exact Below.refl _ _ | apply below_drew1 | apply below_alloc)))) (cells2_one es)).mono ?_; rintro e w1 ⟨v1, rfl, ho, hb⟩; obtain ⟨A', c', rfl, _⟩ := ow_slice ho; have hk0 : w1.cell? ⟨w.heap.size, 0, none⟩ = some (.int .i64 lsn) := pw_cell_below hb (by simp); have hk1 : w1.cell? ⟨w.heap.size, 1, none⟩ = some (.slice A es.length cap) := pw_cell_below hb (by simp); have he0 : w1.cell? ⟨w.heap.size + 1, 0, none⟩ = some (.int .i64 0) := pw_cell_below hb (by simp); have he1 : w1.cell? ⟨w.heap.size + 1, 1, none⟩ = some (.slice none 0 0) := pw_cell_below hb (by simp); have hf0 : w1.frozen? ⟨w.heap.size + 1, 0, none⟩ = false := (hb.frozen (p := ⟨w.heap.size + 1, 0, none⟩) (by simp)).trans (by simp); have hf1 : w1.frozen? ⟨w.heap.size + 1, 1, none⟩ = false := (hb.frozen (p := ⟨w.heap.size + 1, 1, none⟩) (by simp)).trans (by simp)))
  have HO := Aside0.mk ho
  have HB := Aside0.mk (below_step (by repeat (first | exact Below.refl w.heap.size w | apply below_drew1 | apply below_alloc)) hb)
  have hsz : w.heap.size + 2 ≤ w1.heap.size := by have := hb.size; simp at this; omega
  clear ho hb hk0 hk1
  go_wp2_with fail
  exact bodyPost_ret (v := .agg #[.int .i64 lsn, .slice A' es.length c']) (by simp [results, Tryd.results31, go_sem, he0, he1, hf0, hf1]) rfl ⟨.slice A' es.length c', rfl, ⟨ow_move (ow_base HO.out (Nat.zero_le _)) (fun k hk => by
    have hk2 : w.heap.size + 2 ≤ k := by have := (ow_block HO.out hk).1; simp at this; omega
    rw [Below.heap_setCell _ _ _ _ (by show k ≠ w.heap.size + 1; omega), Below.heap_setCell _ _ _ _ (by show k ≠ w.heap.size + 1; omega)]), HP.out.2⟩, (HB.out.setCell (by show w.heap.size ≤ w.heap.size + 1; omega) _).setCell (by show w.heap.size ≤ w.heap.size + 1; omega) _⟩

end Go.Proofs.YtlgpkbhajloajaaDoor.Pool1
/- The contract of pool.Here; ints in memory. No condition. -/
namespace Go.Proofs.YtlgpkbhajloajaaDoor.Pool2
open Go.RowKit Go.Proofs.YtlgpkbhajloajaaDoorW.PrintWords Go.Proofs.YtlgpkbhajloajaaDoorW.PrintLast Go.Proofs.YtlgpkbhajloajaaDoorW.PrintMore
open Go.Proofs.YtlgpkbhajloajaaDoor.See Go.Proofs.YtlgpkbhajloajaaDoor.Mem Go.Proofs.YtlgpkbhajloajaaDoor.Clone Go.Proofs.YtlgpkbhajloajaaDoor.Cell Go.Proofs.YtlgpkbhajloajaaDoor.Page Go.Proofs.YtlgpkbhajloajaaDoor.PageB Go.Proofs.YtlgpkbhajloajaaDoor.PageR Go.Proofs.YtlgpkbhajloajaaDoor.Disk Go.Proofs.YtlgpkbhajloajaaDoor.DiskN Go.Proofs.YtlgpkbhajloajaaDoor.Pool1
attribute [local go_sem] max2_imax min2_imin max_two min_two
set_option linter.unusedVariables false
set_option linter.unusedSimpArgs false

theorem info_int : (Tryd.prog.info? 3).map (fun i => (i.zero, i.size, i.bytes)) = some (some (.int .i64 0), 1, 8) := by kernel_rfl

/-- A slice of numbers of its own. -/
def IS (w : World) (base : Nat) (v : Value) (xs : List Int) : Prop := w.ownsRow base 3 1 v xs.length (xs.map (.int .i64))

theorem IS.nil (w : World) (b : Nat) : IS w b (.slice none 0 0) [] := World.ownsRow_nil _ _ _ _
theorem IS.below {w w' : World} {b : Nat} {v : Value} {xs : List Int} (h : IS w b v xs) (hb : Below w.heap.size w w') : IS w' b v xs := ow_below h hb

theorem one_int (x : Int) : ∀ u ∈ [Value.int .i64 x], u.oneCell' = true := by
  intro u hu; simp at hu; subst hu; rfl

set_option maxHeartbeats 2000000 in
set_option maxRecDepth 100000 in
theorem here_calls (p : Nat) (v : Value) (fs : List Fr) (w : World) (hf : FrsM w v fs) (hc : w.cell? ⟨p, 4, none⟩ = some v) :
    Calls Tryd.prog 13 #[.pointer (some ⟨p, 0, none⟩)] w fun e w' => ∃ v', e = .returned v' ∧ IS w' w.heap.size v' (fs.map (·.n)) ∧ Below w.heap.size w w' := by
  obtain ⟨i0, hi, hzz⟩ := Option.map_eq_some_iff.1 info_int
  simp only [Prod.mk.injEq] at hzz
  obtain ⟨hz0, hz1, hz2⟩ := hzz
  obtain ⟨A, cap, rfl, _⟩ := ow_slice hf.row
  obtain ⟨l, hl⟩ : ∃ l, fs.length = l := ⟨_, rfl⟩
  have HL := Aside0.mk hl
  have HF := Aside0.mk hf
  have hl8 : l ≤ 8 := by rw [← hl]; exact hf.few
  rw [hl] at hc
  have HI0 := Aside0.mk (And.intro hi (And.intro hz0 (And.intro hz1 hz2)))
  clear hf hl hi hz0 hz1 hz2
  go_enter Tryd.func13, Tryd.ntmps13
  go_wp2_with fail
  go_loopg [3, 11] (l + 1) (fun kq v3 v11 w' => ∃ (i : Int) (sl : Value), v3 = sl ∧ v11 = .int .i64 i ∧ Aside0 (0 ≤ i ∧ i ≤ l ∧ (kq : Int) = l + 1 - i) ∧ Aside0 (IS w' w.heap.size sl ((fs.take i.toNat).map (·.n))) ∧ Aside0 (Below w.heap.size w w'))
  case atStart => exact ⟨0, _, rfl, rfl, ⟨by omega, by omega, by omega⟩, ⟨IS.nil _ _⟩, ⟨Below.refl _ _⟩⟩
  case round =>
    obtain ⟨i, sl, rfl, rfl, HI, HS, HB⟩ := hrel
    have hi0 : 0 ≤ i := HI.out.1
    by_cases hlt : i < l
    · obtain ⟨f, hf⟩ : ∃ f, fs[i.toNat]? = some f := ⟨_, List.getElem?_eq_getElem (by have := HL.out; omega)⟩
      obtain ⟨g, rfl, hll, hd0, hd1, hd2, A', c', hfv⟩ := (HF.out.below HB.out).at hf
      obtain ⟨fn, fl, fv, fe⟩ := f
      simp only at hd0 hd1 hd2 hfv
      subst hfv
      have HFI := Aside0.mk hf
      obtain ⟨hi, hz0, hz1, hz2⟩ := HI0.out
      have HLT := Aside0.mk (show ((fs.take i.toNat).map (·.n)).length = i.toNat by rw [List.length_map, List.length_take]; have := HL.out; omega)
      have hn5 : i.toNat ≤ 100000 := by omega
      clear hf hll
      go_wp2_with (at_builtin; refine wpList_append_lies _ (by rfl) _ _ 22 (by rfl) w.heap.size 3 i0 (.int .i64 0) 1 8 Tryd.underlying22 hi hz0 hz1 hz2 rfl (by decide) _ i.toNat (((fs.take i.toNat).map (·.n)).map (.int .i64)) (by rfl) ?own ⟨wr.heap.size + 1, 0, none⟩ 1 1 [.int .i64 fn] (by rfl) rfl ?news (one_int _) (by decide) (len_ok hn5) ?by8 ?base (wr.heap.size + 2) ?hh ?_)
      case own => have := HS.out; unfold IS at this; rw [HLT.out] at this; exact ow_below this (by repeat (first | exact Below.refl _ _ | apply below_drew1 | apply below_alloc))
      case news =>
        intro j u hj
        match j, hj with
        | 0, hj => simp at hj; subst hj; simp [Addr.add]
      case by8 => omega
      case base => have := HB.out.size; simp; omega
      case hh => simp
      intro g2 cap2 w3 hown hgr hor hlt3
      have HO3 := Aside0.mk (show IS w3 w.heap.size (.slice (some ⟨g2, 0, none⟩) (i.toNat + 1) cap2) ((fs.take (i.toNat + 1)).map (·.n)) from by
        have e : (fs.take (i.toNat + 1)).map (·.n) = (fs.take i.toNat).map (·.n) ++ [fn] := by
          have hl := (List.getElem?_eq_some_iff.1 HFI.out)
          obtain ⟨hl1, hl2⟩ := hl
          rw [List.take_succ_eq_append_getElem hl1, List.map_append, hl2]; rfl
        unfold IS
        rw [e, List.length_append, HLT.out, List.map_append, List.map_map, List.map_take]
        exact hown)
      have HB3 := Aside0.mk (show Below w.heap.size w w3 from (HB.out.trans (Below.mono (show Below wr.heap.size wr ((wr.alloc (.cells #[.int .i64 fn, .int .i64 fl, .slice A' fe.length c'] 74)).alloc (.cells #[.int .i64 fn] 3)) by repeat (first | exact Below.refl _ _ | apply below_drew1 | apply below_alloc)) HB.out.size)).grown (w := _) hgr (by have := HB.out.size; simp; omega) (fun k hk => by have h := HS.out; exact (ow_block h hk).1))
      clear hown hgr hor hlt3 hi hz0 hz1 hz2
      go_wp2_with fail
      go_roundg (gk - 1)
      case measure => have := HI.out; omega
      case rel => exact ⟨i + 1, _, rfl, rfl, ⟨by omega, by omega, by have := HI.out; omega⟩, ⟨by rw [show (i + 1).toNat = i.toNat + 1 from by omega]; exact HO3.out⟩, HB3⟩
    · have HE := Aside0.mk (show fs.take i.toNat = fs by rw [show i.toNat = fs.length from by have := HI.out; have := HL.out; omega]; exact List.take_length)
      go_wp2_with fail
      go_ret
      exact ⟨_, rfl, by have := HS.out; rw [HE.out] at this; exact this, HB.out⟩

end Go.Proofs.YtlgpkbhajloajaaDoor.Pool2
/- A log without records, a pool without pages: wal.New, pool.New; slices.Delete on frames. No condition. -/
namespace Go.Proofs.YtlgpkbhajloajaaDoor.Pool3
open Go.RowKit Go.Proofs.YtlgpkbhajloajaaDoorW.PrintWords Go.Proofs.YtlgpkbhajloajaaDoorW.PrintLast Go.Proofs.YtlgpkbhajloajaaDoorW.PrintMore
open Go.Proofs.YtlgpkbhajloajaaDoor.See Go.Proofs.YtlgpkbhajloajaaDoor.Mem Go.Proofs.YtlgpkbhajloajaaDoor.Clone Go.Proofs.YtlgpkbhajloajaaDoor.Cell Go.Proofs.YtlgpkbhajloajaaDoor.Page Go.Proofs.YtlgpkbhajloajaaDoor.PageB Go.Proofs.YtlgpkbhajloajaaDoor.PageR Go.Proofs.YtlgpkbhajloajaaDoor.Disk Go.Proofs.YtlgpkbhajloajaaDoor.DiskN Go.Proofs.YtlgpkbhajloajaaDoor.Pool1 Go.Proofs.YtlgpkbhajloajaaDoor.Pool2
attribute [local go_sem] max2_imax min2_imin max_two min_two
set_option linter.unusedVariables false
set_option linter.unusedSimpArgs false

/-- A log's struct: its disk, its place, its base, its records' slice, how many are flushed. -/
def logCells (d : Nat) (first blocks base epoch : Int) (l : Value) (done : Int) : Array Value :=
  #[.pointer (some ⟨d, 0, none⟩), .int .i64 first, .int .i64 blocks, .int .i64 base, .int .i64 epoch, l, .int .i64 done]

/-- A pool's struct: the dirty pages' slice, its disk, its log, how many frames, the frames' slice. -/
def poolCells (t : Value) (d l : Nat) (frames : Int) (h : Value) : Array Value :=
  #[t, .pointer (some ⟨d, 0, none⟩), .pointer (some ⟨l, 0, none⟩), .int .i64 frames, h]

set_option maxHeartbeats 1000000 in
set_option maxRecDepth 100000 in
theorem new_log (d : Nat) (f b ba ep : Int) (w : World) :
    Calls Tryd.prog 26 #[.pointer (some ⟨d, 0, none⟩), .int .i64 f, .int .i64 b, .int .i64 ba, .int .i64 ep] w fun e w' => e = .returned (.pointer (some ⟨w.heap.size, 0, none⟩)) ∧ w' = w.alloc (.cells (logCells d f b ba ep (.slice none 0 0) 0) 101) := by
  go_enter Tryd.func26, Tryd.ntmps26
  go_wp2
  go_ret
  exact ⟨by simp, rfl⟩

set_option maxHeartbeats 1000000 in
set_option maxRecDepth 100000 in
theorem new_pool (d l : Nat) (n : Int) (w : World) :
    Calls Tryd.prog 27 #[.pointer (some ⟨d, 0, none⟩), .pointer (some ⟨l, 0, none⟩), .int .i64 n] w fun e w' => e = .returned (.pointer (some ⟨w.heap.size, 0, none⟩)) ∧ w' = w.alloc (.cells (poolCells (.slice none 0 0) d l (imin (imax n 1) 8) (.slice none 0 0)) 79) := by
  go_enter Tryd.func27, Tryd.ntmps27
  go_wp2
  go_ret
  exact ⟨by simp, rfl⟩

end Go.Proofs.YtlgpkbhajloajaaDoor.Pool3
/- A log in memory; the contracts of wal.Last, wal.Done, wal.Room, wal.Append. No condition but that api's errors are what their text says. -/
namespace Go.Proofs.YtlgpkbhajloajaaDoor.Wal
open Go.RowKit Go.Proofs.YtlgpkbhajloajaaDoorW.PrintWords Go.Proofs.YtlgpkbhajloajaaDoorW.PrintLast Go.Proofs.YtlgpkbhajloajaaDoorW.PrintMore
open Go.Proofs.YtlgpkbhajloajaaDoor.See Go.Proofs.YtlgpkbhajloajaaDoor.Mem Go.Proofs.YtlgpkbhajloajaaDoor.Clone Go.Proofs.YtlgpkbhajloajaaDoor.Cell Go.Proofs.YtlgpkbhajloajaaDoor.Page Go.Proofs.YtlgpkbhajloajaaDoor.PageB Go.Proofs.YtlgpkbhajloajaaDoor.PageR Go.Proofs.YtlgpkbhajloajaaDoor.Disk Go.Proofs.YtlgpkbhajloajaaDoor.DiskW Go.Proofs.YtlgpkbhajloajaaDoor.DiskS Go.Proofs.YtlgpkbhajloajaaDoor.RecD Go.Proofs.YtlgpkbhajloajaaDoor.Rec Go.Proofs.YtlgpkbhajloajaaDoor.RecC Go.Proofs.YtlgpkbhajloajaaDoor.RecB Go.Proofs.YtlgpkbhajloajaaDoor.Fill Go.Proofs.YtlgpkbhajloajaaDoor.BlockB Go.Proofs.YtlgpkbhajloajaaDoor.Pool3
attribute [local go_sem] max2_imax min2_imin max_two min_two
set_option linter.unusedVariables false
set_option linter.unusedSimpArgs false

/-- What turns where a log does. -/
def lTurn : List Nat := [101, 53]

/-- A log in memory: its block, its records' slice. -/
structure LogM (M : Nat → Prop) (w : World) (lp dp : Nat) (v : Value) (L : Lg) : Prop where
  box : w.heap[lp]? = some (.cells (logCells dp L.first L.blocks L.base L.epoch v L.done) 101 (0, 0))
  row : w.ownsRow 0 53 10 v L.l.length (recCells L.l)
  low : ∀ k, v.ownBlock = some k → M k
  mp : M lp
  ok : L.Ok

theorem LogM.cells {M : Nat → Prop} {w : World} {lp dp : Nat} {v : Value} {L : Lg} (h : LogM M w lp dp v L) :
    w.cell? ⟨lp, 0, none⟩ = some (.pointer (some ⟨dp, 0, none⟩)) ∧ w.cell? ⟨lp, 1, none⟩ = some (.int .i64 L.first) ∧ w.cell? ⟨lp, 2, none⟩ = some (.int .i64 L.blocks) ∧ w.cell? ⟨lp, 3, none⟩ = some (.int .i64 L.base) ∧ w.cell? ⟨lp, 4, none⟩ = some (.int .i64 L.epoch) ∧ w.cell? ⟨lp, 5, none⟩ = some v ∧ w.cell? ⟨lp, 6, none⟩ = some (.int .i64 L.done) := by
  refine ⟨?_, ?_, ?_, ?_, ?_, ?_, ?_⟩ <;> simp [World.cell?, h.box, logCells]
theorem LogM.frozen {M : Nat → Prop} {w : World} {lp dp : Nat} {v : Value} {L : Lg} (h : LogM M w lp dp v L) (i : Nat) : w.frozen? ⟨lp, i, none⟩ = false := by simp [World.frozen?, h.box]

/-- The kinds of a log's blocks. -/
theorem LogM.move {M : Nat → Prop} {w w' : World} {lp dp : Nat} {v : Value} {L : Lg} (h : LogM M w lp dp v L) (hb : ∀ k, k < w.heap.size → tag w k ∈ lTurn → M k → w'.heap[k]? = w.heap[k]?) : LogM M w' lp dp v L :=
  ⟨(hb lp (heap_lt h.box) (by rw [tag_of h.box]; decide) h.mp).trans h.box, ow_move h.row fun k hk => by obtain ⟨_, c, hc⟩ := ow_block h.row hk; exact hb k (heap_lt hc) (by rw [tag_of hc]; decide) (h.low k hk), h.low, h.mp, h.ok⟩
theorem LogM.below {M : Nat → Prop} {w w' : World} {lp dp : Nat} {v : Value} {L : Lg} (h : LogM M w lp dp v L) (hb : Below w.heap.size w w') : LogM M w' lp dp v L := h.move fun k hk _ _ => hb.block k hk
theorem LogM.frm {T : List Nat} {M M' : Nat → Prop} {w w' : World} {lp dp : Nat} {v : Value} {L : Lg} (h : LogM M w lp dp v L) (hf : Frm T M' w w') (hT : ∀ t ∈ lTurn, t ∉ T) : LogM M w' lp dp v L := h.move fun k hk ht _ => hf.block k hk fun _ => hT _ ht
theorem LogM.mono {M M' : Nat → Prop} {w : World} {lp dp : Nat} {v : Value} {L : Lg} (h : LogM M w lp dp v L) (hm : ∀ k, M k → M' k) : LogM M' w lp dp v L := ⟨h.box, h.row, fun k hk => hm k (h.low k hk), hm lp h.mp, h.ok⟩

theorem LogM.form {M : Nat → Prop} {w : World} {lp dp : Nat} {v : Value} {L : Lg} (h : LogM M w lp dp v L) : ∃ A c, v = .slice A L.l.length c := by
  obtain ⟨A, c, hv, _⟩ := ow_slice h.row
  exact ⟨A, c, hv⟩

theorem lg_bounds {L : Lg} (h : L.Ok) : 0 ≤ L.first ∧ L.first ≤ 1000 ∧ 0 ≤ L.blocks ∧ L.blocks ≤ 1000 ∧ 0 ≤ L.base ∧ L.base ≤ 1073741824 ∧ (L.l.length : Int) ≤ 6000 ∧ L.done ≤ L.l.length := by
  obtain ⟨⟨f1, f2⟩, ⟨b1, b2⟩, ⟨c1, c2⟩, _, h5, _, h7, _⟩ := h
  exact ⟨f1, f2, b1, b2, c1, c2, by omega, h7⟩

set_option maxHeartbeats 1000000 in
set_option maxRecDepth 100000 in
theorem last_log (M : Nat → Prop) (lp dp : Nat) (v : Value) (L : Lg) (w : World) (hl : LogM M w lp dp v L) :
    Calls Tryd.prog 44 #[.pointer (some ⟨lp, 0, none⟩)] w fun e w' => e = .returned (.int .i64 L.last) ∧ Below w.heap.size w w' := by
  obtain ⟨c0, c1, c2, c3, c4, c5, c6⟩ := hl.cells
  obtain ⟨A, c, hv⟩ := hl.form
  obtain ⟨k1, k2, k3, k4, k5, k6, k7, k8⟩ := lg_bounds hl.ok
  obtain ⟨n, hn⟩ : ∃ n, L.l.length = n := ⟨_, rfl⟩
  obtain ⟨ba, hba⟩ : ∃ b, L.base = b := ⟨_, rfl⟩
  have HN := Aside0.mk (show L.last = ba + n by unfold Lg.last; rw [hba, hn])
  rw [hn] at hv k7
  rw [hba] at c3 k5 k6
  clear hl hn hba c0 c1 c2 c4 c6 k1 k2 k3 k4 k8
  subst hv
  have hw : IntKind.i64.wrap (ba + (n : Int)) = ba + n := IntWalk.i64_in _ (by omega)
  go_enter Tryd.func44, Tryd.ntmps44
  go_wp2_with fail
  go_quiet (fail)
  go_wp2_with fail
  go_ret
  exact ⟨by simp [HN.out], by repeat (first | exact Below.refl _ _ | apply pw_below_drewN | apply below_drew1)⟩

set_option maxHeartbeats 1000000 in
set_option maxRecDepth 100000 in
theorem done_log (M : Nat → Prop) (lp dp : Nat) (v : Value) (L : Lg) (w : World) (hl : LogM M w lp dp v L) :
    Calls Tryd.prog 22 #[.pointer (some ⟨lp, 0, none⟩)] w fun e w' => e = .returned (.int .i64 L.doneN) ∧ Below w.heap.size w w' := by
  obtain ⟨c0, c1, c2, c3, c4, c5, c6⟩ := hl.cells
  obtain ⟨k1, k2, k3, k4, k5, k6, k7, k8⟩ := lg_bounds hl.ok
  obtain ⟨n, hn⟩ : ∃ n, L.done = n := ⟨_, rfl⟩
  obtain ⟨ba, hba⟩ : ∃ b, L.base = b := ⟨_, rfl⟩
  have HN := Aside0.mk (show L.doneN = ba + n by unfold Lg.doneN; rw [hba, hn])
  have hn6 : (n : Int) ≤ 6000 := by omega
  rw [hn] at c6
  rw [hba] at c3 k5 k6
  clear hl hn hba c0 c1 c2 c4 c5 k1 k2 k3 k4 k7 k8
  have hw : IntKind.i64.wrap (ba + (n : Int)) = ba + n := IntWalk.i64_in _ (by omega)
  go_enter Tryd.func22, Tryd.ntmps22
  go_wp2_with fail
  go_quiet (fail)
  go_wp2_with fail
  go_ret
  exact ⟨by simp [HN.out], by repeat (first | exact Below.refl _ _ | apply pw_below_drewN | apply below_drew1)⟩

set_option maxHeartbeats 2000000 in
set_option maxRecDepth 100000 in
theorem room_log (M : Nat → Prop) (lp dp : Nat) (v : Value) (L : Lg) (w : World) (hl : LogM M w lp dp v L) :
    Calls Tryd.prog 43 #[.pointer (some ⟨lp, 0, none⟩)] w fun e w' => e = .returned (.int .i64 L.room) ∧ Below w.heap.size w w' := by
  obtain ⟨c0, c1, c2, c3, c4, c5, c6⟩ := hl.cells
  obtain ⟨A, c, hv⟩ := hl.form
  obtain ⟨k1, k2, k3, k4, k5, k6, k7, k8⟩ := lg_bounds hl.ok
  have HL := Aside0.mk hl
  obtain ⟨n, hn⟩ : ∃ n, L.l.length = n := ⟨_, rfl⟩
  obtain ⟨la, hla⟩ : ∃ b, L.last = b := ⟨_, rfl⟩
  obtain ⟨bl, hbl⟩ : ∃ b, L.blocks = b := ⟨_, rfl⟩
  have HLA := Aside0.mk hla
  have HN := Aside0.mk (show L.room = imax (imin (bl * 6 - n) (1073741824 - la)) 0 by unfold Lg.room; rw [hbl, hn, hla, imin_eq, imax_eq])
  have hla2 : 0 ≤ la ∧ la ≤ 1073750000 := by rw [← hla]; unfold Lg.last; omega
  obtain ⟨l1, l2⟩ := hla2
  rw [hn] at hv k7
  rw [hbl] at c2 k3 k4
  clear hl hn hbl c0 c1 c3 c4 c6 k1 k2 k5 k6 k8 hla
  subst hv
  have hw1 : IntKind.i64.wrap (bl * 6) = bl * 6 := IntWalk.i64_in _ (by omega)
  have hw2 : IntKind.i64.wrap (bl * 6 - (n : Int)) = bl * 6 - n := IntWalk.i64_in _ (by omega)
  have hw3 : IntKind.i64.wrap (1073741824 - la) = 1073741824 - la := IntWalk.i64_in _ (by omega)
  go_enter Tryd.func43, Tryd.ntmps43
  go_wp2_with fail
  go_region_held3 (fun w' => w'.cell? ⟨lp, 2, none⟩ = some (.int .i64 bl) ∧ w'.cell? ⟨lp, 5, none⟩ = some (.slice A n c))
    (refine ⟨?_, ?_⟩ <;> (first | go_keep | exact hk1 | exact hk2))
    (first | (go_at_call 44; refine (last_log M lp dp _ L _ (by exact HL.out.below (by repeat (first | exact Below.refl _ _ | apply below_drew1)))).mono ?_; rintro e w1 ⟨rfl, hb⟩; rw [HLA.out]; have hk1 : w1.cell? ⟨lp, 2, none⟩ = some (.int .i64 bl) := pw_cell_below hb c2; have hk2 : w1.cell? ⟨lp, 5, none⟩ = some (.slice A n c) := pw_cell_below hb c5))
  have HB := Aside0.mk (show Below w.heap.size w w1 from ⟨hb.os, hb.tape, hb.output, hb.size, hb.block⟩)
  clear hb
  go_wp2_with fail
  go_ret
  exact ⟨by simp [HN.out], HB.out⟩

theorem grown_trans {w w2 W w3 : World} {row : Option Nat} (h1 : Below w.heap.size w w2) (h2 : Below w2.heap.size w2 W) (hgr : W.grownBy w3 row) : w.grownBy w3 row :=
  ⟨hgr.os.trans (h2.os.trans h1.os), hgr.tape.trans (h2.tape.trans h1.tape), hgr.output.trans (h2.output.trans h1.output), Nat.le_trans h1.size (Nat.le_trans h2.size hgr.size), fun j hj hne => (hgr.block j (Nat.lt_of_lt_of_le hj (Nat.le_trans h1.size h2.size)) hne).trans ((h2.block j (Nat.lt_of_lt_of_le hj h1.size)).trans (h1.block j hj))⟩

/-- A log's row turned, then its cell. -/
theorem log_put {M : Nat → Prop} {w w1 : World} {lp dp : Nat} {v v' : Value} {L L' : Lg} (h : LogM M w lp dp v L) (ho : w1.ownsRow 0 53 10 v' L'.l.length (recCells L'.l)) (hL : L' = { L with l := L'.l }) (hok : L'.Ok) (hg : w.grownBy w1 v.ownBlock)
    (hat : v'.ownBlock = v.ownBlock ∨ ∀ k, v'.ownBlock = some k → w.heap.size ≤ k) :
    LogM (Gr M w w1) (w1.setCell ⟨lp, 5, none⟩ v') lp dp v' L' ∧ Frm lTurn M w (w1.setCell ⟨lp, 5, none⟩ v') := by
  have hpl := heap_lt h.box
  have hvn : v.ownBlock ≠ some lp := fun e => by
    obtain ⟨_, c, hc⟩ := ow_block h.row e
    rw [h.box] at hc
    injection hc with hc; injection hc with _ hc
    exact absurd hc (by decide)
  have hb1 : w1.heap[lp]? = some (.cells (logCells dp L.first L.blocks L.base L.epoch v L.done) 101 (0, 0)) := (hg.block lp hpl (fun e => hvn e.symm)).trans h.box
  have hne : v'.ownBlock ≠ some lp := fun e => by
    obtain ⟨_, c, hc⟩ := ow_block ho e
    rw [hb1] at hc
    injection hc with hc; injection hc with _ hc
    exact absurd hc (by decide)
  have hF1 : Frm lTurn M w w1 := (Frm.refl lTurn M w).grown hg (fun k hk hlt => ⟨h.low k hk, by obtain ⟨_, c, hc⟩ := ow_block h.row hk; rw [tag_of hc]; decide⟩)
  refine ⟨⟨?_, ow_move ho fun k hk => Below.heap_setCell _ _ _ _ (fun e => hne (by rw [hk]; exact congrArg some e)), fun k hk => ?_, .inl h.mp, hok⟩, hF1.set (fun _ => ⟨h.mp, by rw [tag_of h.box]; decide⟩) _⟩
  · rw [hL]
    exact heap_setCell_same _ _ _ _ _ _ hb1
  · rcases hat with hat | hat
    · exact .inl (h.low k (hat ▸ hk))
    · obtain ⟨_, c, hc⟩ := ow_block ho hk
      exact .inr ⟨hat k hk, heap_lt hc⟩

theorem append_ok {L : Lg} {r : RecV} (h : L.Ok) (hr : recOk r = true) (hm : ¬ L.room < 1) : ({ L with l := L.l ++ [r] } : Lg).Ok := by
  obtain ⟨h1, h2, h3, h4, h5, h6, h7, h8⟩ := h
  unfold Lg.room Lg.last at hm
  refine ⟨h1, h2, h3, h4, ?_, ?_, ?_, fun x hx => ?_⟩
  · simp only [List.length_append, List.length_cons, List.length_nil]; omega
  · simp only [List.length_append, List.length_cons, List.length_nil]; omega
  · simp only [List.length_append, List.length_cons, List.length_nil]; omega
  · rcases List.mem_append.1 hx with hx | hx
    · exact h8 x hx
    · rw [List.mem_singleton.1 hx]; exact hr

/-- What wal.Append comes to. -/
def AppendPost (a : Nat → Addr) (M : Nat → Prop) (lp dp : Nat) (L : Lg) (r : RecV) (w : World) (e : Ending) (w' : World) : Prop :=
  e = .returned (.tuple #[.int .i64 (appendN L r), errv a (appendE L r)]) ∧ ∃ v', LogM (Gr M w w') w' lp dp v' (appendL L r) ∧ Frm lTurn M w w'

theorem info_rec : (Tryd.prog.info? 53).map (fun i => (i.zero, i.size, i.bytes)) = some (some (.agg #[.int .i64 0, .int .i64 0, .int .i64 0, .int .i64 0, .int .i64 0, .int .i64 0, .bool false, .bool false, .int .i64 0, .int .i64 0]), 10, 72) := by kernel_rfl
theorem len72 {n : Nat} (h : n ≤ 100000) : (n + 1) * 72 ≤ 140737488355328 := by omega
theorem news10_at (W : World) (b : Nat) (hb : W.heap.size = b) (r : RecV) (e : Nat) : ∀ j x, (recL r)[j]? = some x → (W.alloc (.cells (recA r) e)).cell? ((⟨b, 0, none⟩ : Addr).add j) = some x := by
  subst hb
  exact World.news_of_block (cs := recA r) (heap_alloc_new W _)

set_option maxHeartbeats 4000000 in
set_option maxRecDepth 100000 in
theorem append_log (a : Nat → Addr) (M : Nat → Prop) (lp dp : Nat) (v : Value) (L : Lg) (r : RecV) (w : World) (hs : SentsK kn8 w a) (hl : LogM M w lp dp v L) :
    Calls Tryd.prog 19 #[.pointer (some ⟨lp, 0, none⟩), recV r] w (AppendPost a M lp dp L r w) := by
  obtain ⟨i0, hi0, hzz⟩ := Option.map_eq_some_iff.1 info_rec
  simp only [Prod.mk.injEq] at hzz
  obtain ⟨hz0, hz1, hz2⟩ := hzz
  have HI0 := Aside0.mk (And.intro hi0 (And.intro hz0 (And.intro hz1 hz2)))
  have HS := Aside0.mk hs
  have HL := Aside0.mk hl
  have hlpl := heap_lt hl.box
  obtain ⟨A, c, hv⟩ := hl.form
  have hgl : 4 < w.heap.size := World.block_lt_of_cell? _ _ (hs.cell 8 (by decide))
  have hn6 := (lg_bounds hl.ok).2.2.2.2.2.2.1
  obtain ⟨n, hn⟩ : ∃ n, L.l.length = n := ⟨_, rfl⟩
  have HN := Aside0.mk hn
  rw [hn] at hv hn6
  clear hs hl hi0 hz0 hz1 hz2 hn
  obtain ⟨rr, hrr⟩ : ∃ rr, rr = r := ⟨_, rfl⟩
  have HRR := Aside0.mk hrr
  clear hrr
  obtain ⟨k, t, pg, pv, nx, ky, hd, hh, ol, nw⟩ := r
  subst hv
  have hpost : ∀ x o, appendN L ⟨k, t, pg, pv, nx, ky, hd, hh, ol, nw⟩ = x → appendE L ⟨k, t, pg, pv, nx, ky, hd, hh, ol, nw⟩ = o → appendL L ⟨k, t, pg, pv, nx, ky, hd, hh, ol, nw⟩ = L → ∀ w', Below w.heap.size w w' → AppendPost a M lp dp L ⟨k, t, pg, pv, nx, ky, hd, hh, ol, nw⟩ w (.returned (.tuple #[.int .i64 x, errv a o])) w' := fun x o h1 h2 h3 w' hb =>
    ⟨by rw [h1, h2], _, by rw [h3]; exact (HL.out.below hb).mono fun k hk => .inl hk, Frm.of_below hb⟩
  have HPOST := Aside0.mk hpost
  clear hpost
  go_enter Tryd.func19, Tryd.ntmps19
  go_wp2_with fail
  refine (check_calls a ⟨k, t, pg, pv, nx, ky, hd, hh, ol, nw⟩ _ (by exact (HS.out.sub (K' := kn) (by decide)).below (below_alloc (Below.refl _ _) _))).mono ?_
  rintro e w1 ⟨rfl, hb⟩
  have hc1_0 : w1.cell? ⟨w.heap.size, 0, none⟩ = some (.int .i64 k) := (hb.cell (p := ⟨w.heap.size, 0, none⟩) (by simp)).trans (by simp)
  have hc1_1 : w1.cell? ⟨w.heap.size, 1, none⟩ = some (.int .i64 t) := (hb.cell (p := ⟨w.heap.size, 1, none⟩) (by simp)).trans (by simp)
  have hc1_2 : w1.cell? ⟨w.heap.size, 2, none⟩ = some (.int .i64 pg) := (hb.cell (p := ⟨w.heap.size, 2, none⟩) (by simp)).trans (by simp)
  have hc1_3 : w1.cell? ⟨w.heap.size, 3, none⟩ = some (.int .i64 pv) := (hb.cell (p := ⟨w.heap.size, 3, none⟩) (by simp)).trans (by simp)
  have hc1_4 : w1.cell? ⟨w.heap.size, 4, none⟩ = some (.int .i64 nx) := (hb.cell (p := ⟨w.heap.size, 4, none⟩) (by simp)).trans (by simp)
  have hc1_5 : w1.cell? ⟨w.heap.size, 5, none⟩ = some (.int .i64 ky) := (hb.cell (p := ⟨w.heap.size, 5, none⟩) (by simp)).trans (by simp)
  have hc1_6 : w1.cell? ⟨w.heap.size, 6, none⟩ = some (.bool hd) := (hb.cell (p := ⟨w.heap.size, 6, none⟩) (by simp)).trans (by simp)
  have hc1_7 : w1.cell? ⟨w.heap.size, 7, none⟩ = some (.bool hh) := (hb.cell (p := ⟨w.heap.size, 7, none⟩) (by simp)).trans (by simp)
  have hc1_8 : w1.cell? ⟨w.heap.size, 8, none⟩ = some (.int .i64 ol) := (hb.cell (p := ⟨w.heap.size, 8, none⟩) (by simp)).trans (by simp)
  have hc1_9 : w1.cell? ⟨w.heap.size, 9, none⟩ = some (.int .i64 nw) := (hb.cell (p := ⟨w.heap.size, 9, none⟩) (by simp)).trans (by simp)
  have hz1 : w.heap.size < w1.heap.size := by have := hb.size; simp at this; omega
  have HB := Aside0.mk (below_step (below_alloc (Below.refl w.heap.size w) (.cells #[.int .i64 k, .int .i64 t, .int .i64 pg, .int .i64 pv, .int .i64 nx, .int .i64 ky, .bool hd, .bool hh, .int .i64 ol, .int .i64 nw] 53)) hb)
  clear hb
  cases hok : recOk ⟨k, t, pg, pv, nx, ky, hd, hh, ol, nw⟩ with
  | false =>
    have hce : errv a (recE ⟨k, t, pg, pv, nx, ky, hd, hh, ol, nw⟩) = .iface 163 (.pointer (some (a 1))) := by unfold recE; rw [hok]; rfl
    have HR := Aside0.mk (show appendN L ⟨k, t, pg, pv, nx, ky, hd, hh, ol, nw⟩ = 0 ∧ appendE L ⟨k, t, pg, pv, nx, ky, hd, hh, ol, nw⟩ = some 1 ∧ appendL L ⟨k, t, pg, pv, nx, ky, hd, hh, ol, nw⟩ = L by unfold appendN appendE appendL; simp [hok])
    rw [hce]
    clear hce hok
    go_wp2_with fail
    exact bodyPost_ret (v := .tuple #[.int .i64 0, .iface 163 (.pointer (some (a 1)))]) (by simp [results, Tryd.results19, go_sem]) rfl (HPOST.out 0 (some 1) HR.out.1 HR.out.2.1 HR.out.2.2 _ HB.out)
  | true =>
    have hce : errv a (recE ⟨k, t, pg, pv, nx, ky, hd, hh, ol, nw⟩) = .nilIface := by unfold recE; rw [hok]; rfl
    have HOK := Aside0.mk hok
    rw [hce]
    clear hce hok
    go_wp2_with fail
    refine (room_log M lp dp _ L _ (by exact HL.out.below HB.out)).mono ?_
    rintro e w2 ⟨rfl, hb⟩
    have hc2_0 : w2.cell? ⟨w.heap.size, 0, none⟩ = some (.int .i64 k) := (hb.cell (p := ⟨w.heap.size, 0, none⟩) (by exact hz1)).trans hc1_0
    have hc2_1 : w2.cell? ⟨w.heap.size, 1, none⟩ = some (.int .i64 t) := (hb.cell (p := ⟨w.heap.size, 1, none⟩) (by exact hz1)).trans hc1_1
    have hc2_2 : w2.cell? ⟨w.heap.size, 2, none⟩ = some (.int .i64 pg) := (hb.cell (p := ⟨w.heap.size, 2, none⟩) (by exact hz1)).trans hc1_2
    have hc2_3 : w2.cell? ⟨w.heap.size, 3, none⟩ = some (.int .i64 pv) := (hb.cell (p := ⟨w.heap.size, 3, none⟩) (by exact hz1)).trans hc1_3
    have hc2_4 : w2.cell? ⟨w.heap.size, 4, none⟩ = some (.int .i64 nx) := (hb.cell (p := ⟨w.heap.size, 4, none⟩) (by exact hz1)).trans hc1_4
    have hc2_5 : w2.cell? ⟨w.heap.size, 5, none⟩ = some (.int .i64 ky) := (hb.cell (p := ⟨w.heap.size, 5, none⟩) (by exact hz1)).trans hc1_5
    have hc2_6 : w2.cell? ⟨w.heap.size, 6, none⟩ = some (.bool hd) := (hb.cell (p := ⟨w.heap.size, 6, none⟩) (by exact hz1)).trans hc1_6
    have hc2_7 : w2.cell? ⟨w.heap.size, 7, none⟩ = some (.bool hh) := (hb.cell (p := ⟨w.heap.size, 7, none⟩) (by exact hz1)).trans hc1_7
    have hc2_8 : w2.cell? ⟨w.heap.size, 8, none⟩ = some (.int .i64 ol) := (hb.cell (p := ⟨w.heap.size, 8, none⟩) (by exact hz1)).trans hc1_8
    have hc2_9 : w2.cell? ⟨w.heap.size, 9, none⟩ = some (.int .i64 nw) := (hb.cell (p := ⟨w.heap.size, 9, none⟩) (by exact hz1)).trans hc1_9
    have hz2 : w.heap.size < w2.heap.size := by have := hb.size; omega
    have hg8 : w2.cell? ⟨4, 0, none⟩ = some (.iface 163 (.pointer (some (a 8)))) := (HS.out.below (below_step HB.out hb)).cell 8 (by decide)
    replace HB := Aside0.mk (below_step HB.out hb)
    clear hb hc1_0 hc1_1 hc1_2 hc1_3 hc1_4 hc1_5 hc1_6 hc1_7 hc1_8 hc1_9
    obtain ⟨ro, hro⟩ : ∃ ro, L.room = ro := ⟨_, rfl⟩
    rw [hro]
    by_cases hrm : ro < 1
    · have HR := Aside0.mk (show appendN L ⟨k, t, pg, pv, nx, ky, hd, hh, ol, nw⟩ = 0 ∧ appendE L ⟨k, t, pg, pv, nx, ky, hd, hh, ol, nw⟩ = some 8 ∧ appendL L ⟨k, t, pg, pv, nx, ky, hd, hh, ol, nw⟩ = L by unfold appendN appendE appendL; simp [HOK.out, hro, hrm])
      have q1 : decide (ro < 1) = true := decide_eq_true hrm
      clear hro hrm
      go_wp2_with fail
      go_quiet (fail)
      go_wp2_with fail
      exact bodyPost_ret (v := .tuple #[.int .i64 0, .iface 163 (.pointer (some (a 8)))]) (by simp [results, Tryd.results19, go_sem]) rfl (HPOST.out 0 (some 8) HR.out.1 HR.out.2.1 HR.out.2.2 _ (by repeat (first | exact HB.out | apply pw_below_drewN | apply below_drew1)))
    · have HR := Aside0.mk (show appendN L ⟨k, t, pg, pv, nx, ky, hd, hh, ol, nw⟩ = L.last + 1 ∧ appendE L ⟨k, t, pg, pv, nx, ky, hd, hh, ol, nw⟩ = none ∧ appendL L ⟨k, t, pg, pv, nx, ky, hd, hh, ol, nw⟩ = { L with l := L.l ++ [⟨k, t, pg, pv, nx, ky, hd, hh, ol, nw⟩] } by unfold appendN appendE appendL; simp [HOK.out, hro, hrm])
      have HOK2 := Aside0.mk (append_ok HL.out.ok HOK.out (by rw [hro]; exact hrm))
      have q1 : decide (ro < 1) = false := decide_eq_false hrm
      have hl2 := HL.out.below HB.out
      obtain ⟨_, _, _, _, _, hc5, _⟩ := hl2.cells
      have hfz := hl2.frozen 5
      have HL2 := Aside0.mk hl2
      have hlp2 := heap_lt hl2.box
      have hvn : (Value.slice A n c).ownBlock ≠ some lp := fun e => by
        obtain ⟨_, cc, hcc⟩ := ow_block hl2.row e
        rw [hl2.box] at hcc
        injection hcc with hcc; injection hcc with _ hcc
        exact absurd hcc (by decide)
      have HVN := Aside0.mk hvn
      obtain ⟨hi0, hz0, hz1', hz2'⟩ := HI0.out
      have hn5 : n ≤ 100000 := by omega
      clear hro hrm hl2 hvn
      go_wp2_with fail
      go_region_law (refine step_append_lies _ (by rfl) _ _ 99 (by rfl) 0 53 i0 (.agg #[.int .i64 0, .int .i64 0, .int .i64 0, .int .i64 0, .int .i64 0, .int .i64 0, .bool false, .bool false, .int .i64 0, .int .i64 0]) 10 72 Tryd.underlying99 hi0 hz0 hz1' hz2' rfl (by decide) _ n (recCells L.l) (by rfl) (by have h := HL2.out.row; rw [HN.out] at h; exact ow_below h (by repeat (first | exact Below.refl _ _ | apply below_drew1 | apply below_alloc))) ⟨w2.heap.size, 0, none⟩ 1 1 (recL ⟨k, t, pg, pv, nx, ky, hd, hh, ol, nw⟩) (by rfl) rfl (by exact news10_at _ _ (by simp) ⟨k, t, pg, pv, nx, ky, hd, hh, ol, nw⟩ _) (by exact recL_one _) (by decide) (by exact len_ok hn5) (by exact len72 hn5) (by exact Nat.zero_le _) (w2.heap.size + 1) (by simp) ?_; intro g2 cap2 w3 hown hgr hor hlt3; have hkg : w3.heap[lp]? = w2.heap[lp]? := grown_blk hgr (by exact (show Below w2.heap.size w2 _ by repeat (first | exact Below.refl _ _ | apply below_drew1 | apply below_alloc)).block _ hlp2) (by simp; omega) (fun k hk e => HVN.out ((show _ = some k from hk).trans (congrArg some e))); have hs1 : w3.cell? ⟨lp, 5, none⟩ = some (.slice A n c) := (World.cell?_of_block (w := w2) (a := ⟨lp, 5, none⟩) hkg).trans hc5; have hs2 : w3.frozen? ⟨lp, 5, none⟩ = false := (World.frozen?_of_block (w := w2) (a := ⟨lp, 5, none⟩) hkg).trans hfz)
      all_goals
        have HOWN := Aside0.mk hown
        have HOR := Aside0.mk hor
        have HGR := Aside0.mk (show w.grownBy w3 (Value.slice A n c).ownBlock from grown_trans HB.out (by repeat (first | exact Below.refl _ _ | apply below_drew1 | apply below_alloc)) hgr)
        clear hown hor hgr hi0 hz0 hz1' hz2' hkg
        have HP := Aside0.mk (log_put HL.out (w1 := w3) (v' := .slice (some ⟨g2, 0, none⟩) (n + 1) cap2) (L' := { L with l := L.l ++ [⟨k, t, pg, pv, nx, ky, hd, hh, ol, nw⟩] }) (by
          rw [List.length_append, HN.out, recCells_append]
          have := HOWN.out
          have e : recCells [⟨k, t, pg, pv, nx, ky, hd, hh, ol, nw⟩] = recL ⟨k, t, pg, pv, nx, ky, hd, hh, ol, nw⟩ := by simp [recCells]
          rw [e]; exact this) rfl HOK2.out HGR.out (by
          rcases HOR.out with h | h
          · exact .inl h.symm
          · exact .inr fun j hj => by
              have : g2 = j := by simpa [Value.ownBlock] using hj
              have := HB.out.size
              omega))
        go_wp2_with fail
        refine (last_log _ lp dp _ _ _ HP.out.1).mono ?_
        rintro e w4 ⟨rfl, hb4⟩
        have HB4 := Aside0.mk hb4
        have HLAST := Aside0.mk (show ({ L with l := L.l ++ [⟨k, t, pg, pv, nx, ky, hd, hh, ol, nw⟩] } : Lg).last = L.last + 1 by unfold Lg.last; simp; omega)
        clear hb4
        go_wp2_with fail
        exact bodyPost_ret (v := .tuple #[.int .i64 (({ L with l := L.l ++ [⟨k, t, pg, pv, nx, ky, hd, hh, ol, nw⟩] } : Lg).last), .nilIface]) (by simp [results, Tryd.results19, go_sem]) rfl ⟨by rw [HR.out.1, HR.out.2.1, HLAST.out]; rfl, _, by
          rw [HR.out.2.2]
          exact (HP.out.1.below HB4.out).mono fun j hj => by
            rcases hj with hj | ⟨h1, h2⟩
            · exact .inl hj
            · exact .inr ⟨h1, by have := HB4.out.size; simp [World.setCell] at this; omega⟩, HP.out.2.step HB4.out⟩

end Go.Proofs.YtlgpkbhajloajaaDoor.Wal
/- The contract of wal.Flush. No condition but that api's errors are what their text says. -/
namespace Go.Proofs.YtlgpkbhajloajaaDoor.WalF
open Go.RowKit Go.Proofs.YtlgpkbhajloajaaDoorW.PrintWords Go.Proofs.YtlgpkbhajloajaaDoorW.PrintLast Go.Proofs.YtlgpkbhajloajaaDoorW.PrintMore
open Go.Proofs.YtlgpkbhajloajaaDoor.See Go.Proofs.YtlgpkbhajloajaaDoor.Mem Go.Proofs.YtlgpkbhajloajaaDoor.Clone Go.Proofs.YtlgpkbhajloajaaDoor.Cell Go.Proofs.YtlgpkbhajloajaaDoor.Page Go.Proofs.YtlgpkbhajloajaaDoor.PageB Go.Proofs.YtlgpkbhajloajaaDoor.PageR Go.Proofs.YtlgpkbhajloajaaDoor.Disk Go.Proofs.YtlgpkbhajloajaaDoor.DiskW Go.Proofs.YtlgpkbhajloajaaDoor.DiskS Go.Proofs.YtlgpkbhajloajaaDoor.RecD Go.Proofs.YtlgpkbhajloajaaDoor.Rec Go.Proofs.YtlgpkbhajloajaaDoor.RecC Go.Proofs.YtlgpkbhajloajaaDoor.RecB Go.Proofs.YtlgpkbhajloajaaDoor.Fill Go.Proofs.YtlgpkbhajloajaaDoor.BlockB Go.Proofs.YtlgpkbhajloajaaDoor.Pool3 Go.Proofs.YtlgpkbhajloajaaDoor.Wal Go.Proofs.YtlgpkbhajloajaaDoor.Del
attribute [local go_sem] max2_imax min2_imin max_two min_two
set_option linter.unusedVariables false
set_option linter.unusedSimpArgs false

/-- Every sector has at most so many loose versions. -/
def LooseLe (d : Dsk) (m : Nat) : Prop := ∀ s ∈ d.l, s.loose.length ≤ m

theorem LooseLe.mono {d : Dsk} {m m' : Nat} (h : LooseLe d m) (hm : m ≤ m') : LooseLe d m' := fun s hs => Nat.le_trans (h s hs) hm

theorem spendD_fuse {d : Dsk} (h : FuseOk d) : FuseOk (spendD d) := by
  unfold spendD
  split
  · exact h
  · split
    · exact h
    · obtain ⟨h1, h2⟩ := h
      refine ⟨?_, ?_⟩ <;> simp only <;> omega
theorem writeD_fuse {d : Dsk} (i : Int) (b : List Int) (h : FuseOk d) : FuseOk (writeD d i b) := by
  unfold writeD
  split
  · exact h
  · split
    · split
      · exact spendD_fuse h
      · exact h
    · exact h
theorem writeD_loose {d : Dsk} (i : Int) (b : List Int) {m : Nat} (h : LooseLe d m) : LooseLe (writeD d i b) (m + 1) := by
  unfold writeD
  split
  · exact h.mono (by omega)
  · split
    · split
      · intro s hs
        rw [spendD_l] at hs
        simp only at hs
        obtain ⟨j, hj, hjs⟩ := List.getElem_of_mem hs
        have hjs2 : (d.l.modify i.toNat fun s => ⟨s.fast, s.loose ++ [b]⟩)[j]? = some s := by rw [List.getElem?_eq_getElem hj, hjs]
        rw [List.getElem?_modify] at hjs2
        cases hjd : d.l[j]? with
        | none => rw [hjd] at hjs2; simp at hjs2
        | some s0 =>
          rw [hjd] at hjs2
          have h0 := h s0 (List.mem_of_getElem? hjd)
          by_cases e : i.toNat = j
          · simp [e] at hjs2
            subst hjs2
            simp; omega
          · simp [e] at hjs2
            subst hjs2
            omega
      · exact h.mono (by omega)
    · exact h.mono (by omega)
theorem writeD_len (d : Dsk) (i : Int) (b : List Int) : (writeD d i b).l.length = d.l.length := by
  unfold writeD
  split
  · rfl
  · split
    · split
      · rw [spendD_l]; simp
      · rfl
    · rfl

theorem recCells_sub (l : List RecV) (lo m : Nat) : ((recCells l).drop (lo * 10)).take (m * 10) = recCells ((l.drop lo).take m) := by
  have key : ∀ (l : List RecV) (i : Nat), recCells (l.take i) = (recCells l).take (i * 10) ∧ recCells (l.drop i) = (recCells l).drop (i * 10) := by
    intro l
    induction l with
    | nil => intro i; simp [recCells]
    | cons d ds ih =>
      intro i
      cases i with
      | zero => simp [recCells]
      | succ i =>
        obtain ⟨h1, h2⟩ := ih i
        unfold recCells at h1 h2 ⊢
        simp only [List.take_succ_cons, List.drop_succ_cons, List.flatMap_cons]
        rw [h1, h2]
        have hl : (recL d).length = 10 := rfl
        constructor
        · rw [List.take_append, hl, List.take_of_length_le (l := recL d) (by rw [hl]; omega), show (i + 1) * 10 - 10 = i * 10 from by omega]
        · rw [List.drop_append, hl, List.drop_of_length_le (l := recL d) (by rw [hl]; omega), show (i + 1) * 10 - 10 = i * 10 from by omega, List.nil_append]
  rw [(key (l.drop lo) m).1, (key l lo).2]

theorem frm_app {T1 T2 : List Nat} {M : Nat → Prop} {w w' : World} (h : Frm T1 M w w') : Frm (T1 ++ T2) M w w' := h.wide (fun t ht => List.mem_append_left _ ht) fun _ _ hm => hm
theorem frm_app2 {T1 T2 : List Nat} {M : Nat → Prop} {w w' : World} (h : Frm T2 M w w') : Frm (T1 ++ T2) M w w' := h.wide (fun t ht => List.mem_append_right _ ht) fun _ _ hm => hm

/-- What wal.Flush comes to. -/
def LFlushPost (a : Nat → Addr) (M : Nat → Prop) (lp dp : Nat) (L : Lg) (d : Dsk) (w : World) (e : Ending) (w' : World) : Prop :=
  e = .returned (errv a (lflush L d).2.2) ∧ DskM (Gr M w w') w' dp (lflush L d).2.1 ∧ (∃ v', LogM (Gr M w w') w' lp dp v' (lflush L d).1) ∧ Frm (dTurn ++ lTurn) M w w'

theorem flushFrom_stop {L : Lg} {f k : Nat} {d : Dsk} (h : ¬ k * 6 < L.l.length) : flushFrom L f k d = (d, none) := by
  cases f with
  | zero => rfl
  | succ f => unfold flushFrom; rw [if_neg h]
theorem flushFrom_err {L : Lg} {f k : Nat} {d : Dsk} {e : Nat} (h : k * 6 < L.l.length) (he : writeE d (L.first + k) (blockBytes L.epoch ((L.l.drop (k * 6)).take 6)) = some e) : flushFrom L (f + 1) k d = (writeD d (L.first + k) (blockBytes L.epoch ((L.l.drop (k * 6)).take 6)), some e) := by
  unfold flushFrom; rw [if_pos h]; simp only [he]
theorem flushFrom_next {L : Lg} {f k : Nat} {d : Dsk} (h : k * 6 < L.l.length) (he : writeE d (L.first + k) (blockBytes L.epoch ((L.l.drop (k * 6)).take 6)) = none) : flushFrom L (f + 1) k d = flushFrom L f (k + 1) (writeD d (L.first + k) (blockBytes L.epoch ((L.l.drop (k * 6)).take 6))) := by
  conv => lhs; unfold flushFrom
  rw [if_pos h]; simp only [he]

/-- All is flushed. -/
theorem log_done {M : Nat → Prop} {w : World} {lp dp : Nat} {v : Value} {L : Lg} (h : LogM M w lp dp v L) : LogM M (w.setCell ⟨lp, 6, none⟩ (.int .i64 L.l.length)) lp dp v { L with done := L.l.length } ∧ Frm lTurn M w (w.setCell ⟨lp, 6, none⟩ (.int .i64 L.l.length)) := by
  have hvn : ∀ k, v.ownBlock = some k → k ≠ lp := fun k e e2 => by
    subst e2
    obtain ⟨_, c, hc⟩ := ow_block h.row e
    rw [h.box] at hc
    injection hc with hc; injection hc with _ hc
    exact absurd hc (by decide)
  obtain ⟨h1, h2, h3, h4, h5, h6, h7, h8⟩ := h.ok
  exact ⟨⟨heap_setCell_same _ _ _ _ _ _ h.box, ow_move h.row fun k hk => Below.heap_setCell _ _ _ _ (hvn k hk), h.low, h.mp, ⟨h1, h2, h3, h4, h5, h6, Nat.le_refl _, h8⟩⟩, frm_box h.box h.mp (by decide) _ _⟩

/-- What wal.Flush does behind the blocks. -/
def flushEnd (L : Lg) : Dsk × Option Nat → Lg × Dsk × Option Nat
  | (d', some e) => (L, d', some e)
  | (d', none) => match syncE d' with
    | some e => (L, syncD d', some e)
    | none => ({ L with done := L.l.length }, syncD d', none)
theorem lflush_end {L : Lg} {d : Dsk} (h : ¬ L.done = L.l.length) : lflush L d = flushEnd L (flushFrom L (L.l.length + 1) (L.done / 6) d) := by
  unfold lflush
  rw [if_neg h]
  generalize flushFrom L (L.l.length + 1) (L.done / 6) d = r
  obtain ⟨d', o⟩ := r
  cases o with
  | some e => rfl
  | none =>
    unfold flushEnd
    simp only
    cases syncE d' <;> rfl

set_option maxHeartbeats 8000000 in
set_option maxRecDepth 100000 in
theorem flush_log (a : Nat → Addr) (M : Nat → Prop) (lp dp : Nat) (v : Value) (L : Lg) (d : Dsk) (w : World) (hs : Sents w a) (hO : Out M a) (hd : DskM M w dp d) (hl : LogM M w lp dp v L) (hf : FuseOk d) (hlo : LooseLe d 50000) :
    Calls Tryd.prog 47 #[.pointer (some ⟨lp, 0, none⟩)] w (LFlushPost a M lp dp L d w) := by
  obtain ⟨c0, c1, c2, c3, c4, c5, c6⟩ := hl.cells
  obtain ⟨A, c, hv⟩ := hl.form
  obtain ⟨k1, k2, k3, k4, k5, k6, k7, k8⟩ := lg_bounds hl.ok
  have HS := Aside0.mk hs
  have HO := Aside0.mk hO
  have HD := Aside0.mk hd
  have HL := Aside0.mk hl
  have HFU := Aside0.mk hf
  have HLO := Aside0.mk hlo
  obtain ⟨n, hn⟩ : ∃ n, L.l.length = n := ⟨_, rfl⟩
  obtain ⟨dn, hdn⟩ : ∃ n, L.done = n := ⟨_, rfl⟩
  obtain ⟨fi, hfi⟩ : ∃ n, L.first = n := ⟨_, rfl⟩
  obtain ⟨ep, hep⟩ : ∃ n, L.epoch = n := ⟨_, rfl⟩
  have HN := Aside0.mk (And.intro hn (And.intro hdn (And.intro hfi hep)))
  rw [hn] at hv k7 k8
  rw [hdn] at c6 k8
  rw [hfi] at c1 k1 k2
  rw [hep] at c4
  clear hs hO hd hl hf hlo hn hdn hfi hep c2 c3 k3 k4 k5 k6
  subst hv
  by_cases hdd : dn = n
  · subst hdd
    have HR := Aside0.mk (show lflush L d = (L, d, none) by unfold lflush; rw [if_pos (by rw [HN.out.1, HN.out.2.1])])
    have HPOST := Aside0.mk (show ∀ w', Below w.heap.size w w' → LFlushPost a M lp dp L d w (.returned .nilIface) w' from fun w' hB => ⟨by rw [HR.out]; rfl, by rw [HR.out]; exact (HD.out.below hB).mono fun k hk => .inl hk, ⟨_, by rw [HR.out]; exact (HL.out.below hB).mono fun k hk => .inl hk⟩, Frm.of_below hB⟩)
    clear c0 c1 c4
    go_enter Tryd.func47, Tryd.ntmps47
    go_wp2_with fail
    go_quiet (fail)
    go_wp2_with fail
    go_ret
    exact HPOST.out _ (by repeat (first | exact Below.refl _ _ | apply pw_below_drewN | apply below_drew1))
  · have hne : ((dn : Int) == (n : Int)) = false := by simp; omega
    obtain ⟨d0, hd0⟩ : ∃ d0, dn / 6 = d0 := ⟨_, rfl⟩
    have hd06 : d0 ≤ 1000 := by omega
    have hdiv : (dn : Int) / 6 = (d0 : Int) := by omega
    have HR := Aside0.mk (show lflush L d = flushEnd L (flushFrom L (n + 1) d0 d) by
      rw [lflush_end (by rw [HN.out.1, HN.out.2.1]; exact hdd), HN.out.1, HN.out.2.1, hd0])
    clear hd0
    go_enter Tryd.func47, Tryd.ntmps47
    go_wp2_with fail
    go_quiet (fail)
    go_wp2_with fail
    go_loopg [3] (n + 2) (fun kq v3 w' => ∃ (k : Int) (dk : Dsk), v3 = .int .i64 k ∧ Aside0 (0 ≤ k ∧ d0 ≤ k ∧ k ≤ n + 1 ∧ k ≤ 2000 ∧ (kq : Int) = n + 2 - (k - d0)) ∧ Aside0 (flushFrom L (n + 1 - (k.toNat - d0)) k.toNat dk = flushFrom L (n + 1) d0 d) ∧ Aside0 (DskM (Gr M w w') w' dp dk) ∧ Aside0 (Frm dTurn M w w') ∧ Aside0 (FuseOk dk ∧ LooseLe dk (50000 + k.toNat)))
    case atStart =>
      have hB : ∀ W, Below w.heap.size w W → Aside0 (DskM (Gr M w W) W dp d) ∧ Aside0 (Frm dTurn M w W) := fun W h => ⟨⟨(HD.out.below h).mono fun k hk => .inl hk⟩, ⟨Frm.of_below h⟩⟩
      exact ⟨d0, d, rfl, ⟨by omega, by omega, by omega, by omega, by omega⟩, ⟨by rw [show ((d0 : Int)).toNat = d0 from by omega, Nat.sub_self]; rfl⟩, (hB _ (by repeat (first | exact Below.refl _ _ | apply pw_below_drewN | apply below_drew1))).1, (hB _ (by repeat (first | exact Below.refl _ _ | apply pw_below_drewN | apply below_drew1))).2, ⟨HFU.out, HLO.out.mono (by omega)⟩⟩
    case round =>
      obtain ⟨k, dk, rfl, HK, HFF, HDK, HFR, HOK⟩ := hrel
      have hk0 : 0 ≤ k := HK.out.1
      have hk2 : k ≤ 2000 := HK.out.2.2.2.1
      have hl' := HL.out.frm HFR.out (by decide)
      obtain ⟨e0, e1, _, _, e4, e5, e6⟩ := hl'.cells
      rw [HN.out.2.2.1] at e1
      rw [HN.out.2.2.2] at e4
      rw [HN.out.2.1] at e6
      have HL' := Aside0.mk hl'
      have hs' := sents_frm HS.out HFR.out HO.out
      have HS' := Aside0.mk hs'
      have HO' := Aside0.mk (HO.out.gr HS.out (w' := wr))
      clear hl' hs'
      by_cases hlt : k * 6 < n
      · obtain ⟨g, cap, hv, _, hgl⟩ := HL'.out.row.form (by have := HN.out.1; omega)
        rw [HN.out.1] at hv
        injection hv with hv1 hv2 hv3
        subst hv1 hv3
        have hrow := HL'.out.row
        rw [HN.out.1] at hrow
        obtain ⟨hcs, hfz, hrd, hnc, hcm⟩ := own_cells hrow
        clear hrow
        unfold maxLen at hcm
        obtain ⟨lo, hlo⟩ : ∃ lo : Nat, k * 6 = lo := ⟨(k * 6).toNat, by omega⟩
        obtain ⟨hi, hhi⟩ : ∃ hi : Nat, imin (k * 6 + 6) n = hi := ⟨(imin (k * 6 + 6) n).toNat, by rw [imin_eq]; omega⟩
        have hi1 : lo < hi ∧ hi ≤ n ∧ hi - lo ≤ 6 ∧ (hi = n ∨ hi = lo + 6) := by rw [imin_eq] at hhi; omega
        have HLO2 := Aside0.mk (And.intro hlo hi1)
        obtain ⟨i1, i2, i3, _⟩ := hi1
        have hw1 : IntKind.i64.wrap (k * 6) = lo := by rw [IntWalk.i64_in _ (by omega)]; exact hlo
        have hw2 : IntKind.i64.wrap ((lo : Int) + 6) = k * 6 + 6 := by rw [IntWalk.i64_in _ (by omega)]; omega
        have hlt2 : (lo : Int) < (n : Int) := by omega
        have hcl : ¬ c = lo := by omega
        have hnn : n ≤ 6000 := by omega
        have HSUB := Aside0.mk (show RecsR wr (.slice (some ⟨g, lo * 10, none⟩) (hi - lo) (c - lo)) ((L.l.drop (k.toNat * 6)).take 6) from by
          have hR : Rd wr 53 10 (.slice (some ⟨g, 0, none⟩) n c) n (recCells L.l) := by
            have := Rd.of_own HL'.out.row (by rw [HN.out.1]; omega)
            rw [HN.out.1] at this; exact this
          have hS := hR.sub lo hi (c - lo) (by omega) i2 (by omega) (by unfold maxLen; omega)
          rw [recCells_sub, Nat.zero_add] at hS
          have e1 : (L.l.drop (k.toNat * 6)).take 6 = (L.l.drop lo).take (hi - lo) := by
            rw [show k.toNat * 6 = lo from by omega]
            rcases (HLO2.out.2.2.2.2) with h | h
            · rw [List.take_of_length_le (by rw [List.length_drop, HN.out.1]; omega), List.take_of_length_le (by rw [List.length_drop, HN.out.1]; omega)]
            · rw [show hi - lo = 6 from by omega]
          have e2 : ((L.l.drop lo).take (hi - lo)).length = hi - lo := by rw [List.length_take, List.length_drop, HN.out.1]; omega
          unfold RecsR
          rw [e1, e2]
          exact hS)
        have HLEN := Aside0.mk (show ((L.l.drop (k.toNat * 6)).take 6).length = hi - lo from HSUB.out.1 |> fun h => by
          have e2 : ((L.l.drop (k.toNat * 6)).take 6).length = min 6 (n - k.toNat * 6) := by rw [List.length_take, List.length_drop, HN.out.1]
          have := HLO2.out
          omega)
        have HBE := Aside0.mk (show blockE ep ((L.l.drop (k.toNat * 6)).take 6) = none from blockE_good (by
            unfold blockOk inB
            have := HL.out.ok.epoch
            rw [HN.out.2.2.2] at this
            rw [HLEN.out]; simp; omega) fun r hr => HL.out.ok.recs r (List.mem_of_mem_drop (List.mem_of_mem_take hr)))
        have hq1 : hi ≤ c := by omega
        have hq2 : lo ≤ hi := by omega
        have hq3 : (lo : Int) ≤ (hi : Int) := by omega
        have hq4 : (hi : Int) ≤ (c : Int) := by omega
        have hq5 : (0 : Int) ≤ (lo : Int) := by omega
        clear hcs hfz hrd hlo hgl
        go_wp2_with fail
        go_region_held3 (fun w' => w'.cell? ⟨lp, 4, none⟩ = some (.int .i64 ep) ∧ w'.cell? ⟨lp, 5, none⟩ = some (.slice (some ⟨g, 0, none⟩) n c))
          (refine ⟨?_, ?_⟩ <;> (first | go_keep | exact hk1 | exact hk2))
          (first | (go_at_call 67; refine (bbytes_calls a ep (.slice (some ⟨g, lo * 10, none⟩) (hi - lo) (c - lo)) ((L.l.drop (k.toNat * 6)).take 6) _ (by exact HS'.out.below (by repeat (first | exact Below.refl _ _ | apply pw_below_drewN | apply below_drew1))) (by exact HSUB.out.below (by repeat (first | exact Below.refl _ _ | apply pw_below_drewN | apply below_drew1)))).mono ?_; rintro e w4 ⟨b4, rfl, hb4, hB4⟩; have hk1 : w4.cell? ⟨lp, 4, none⟩ = some (.int .i64 ep) := pw_cell_below hB4 e4; have hk2 : w4.cell? ⟨lp, 5, none⟩ = some (.slice (some ⟨g, 0, none⟩) n c) := pw_cell_below hB4 e5))
        have hbe := HBE.out
        rw [hbe, show errv a none = .nilIface from rfl]
        have HB4 := Aside0.mk (show BS w4 b4 (blockBytes ep ((L.l.drop (k.toNat * 6)).take 6)) by have h := hb4; unfold blockV at h; rw [hbe] at h; exact h)
        have HW4 := Aside0.mk (show Below wr.heap.size wr w4 from ⟨hB4.os, hB4.tape, hB4.output, hB4.size, hB4.block⟩)
        have hd4 := HDK.out.below HW4.out
        have HF4 := Aside0.mk (HFR.out.step HW4.out)
        have HS4 := Aside0.mk (HS'.out.below HW4.out)
        have f0 : w4.cell? ⟨lp, 0, none⟩ = some (.pointer (some ⟨dp, 0, none⟩)) := pw_cell_below HW4.out e0
        have f1 : w4.cell? ⟨lp, 1, none⟩ = some (.int .i64 fi) := pw_cell_below HW4.out e1
        have hwk : IntKind.i64.wrap (fi + k) = fi + k := IntWalk.i64_in _ (by omega)
        have HD4 := Aside0.mk hd4
        obtain ⟨A4, c4', hv4, _⟩ := Rd.form HB4.out
        obtain ⟨nb, hnb⟩ : ∃ nb, (blockBytes ep ((L.l.drop (k.toNat * 6)).take 6)).length = nb := ⟨_, rfl⟩
        rw [hnb] at hv4
        subst hv4
        clear hnb hb4 hB4 hk1 hk2 hd4 hbe hw1 hw2 e0 e1 e4 e5 e6 hq1 hq2 hq3 hq4 hq5
        go_wp2_with fail
        go_region_held3 (fun w' => w'.cell? ⟨lp, 0, none⟩ = some (.pointer (some ⟨dp, 0, none⟩)) ∧ w'.cell? ⟨lp, 1, none⟩ = some (.int .i64 fi))
          (refine ⟨?_, ?_⟩ <;> (first | go_keep | exact hk1 | exact hk2))
          (first | (go_at_call 14; refine (write_disk a (Gr M w wr) dp dk (fi + k) _ (blockBytes ep ((L.l.drop (k.toNat * 6)).take 6)) _ (by exact HS4.out.below (by repeat (first | exact Below.refl _ _ | apply pw_below_drewN | apply below_drew1))) HO'.out (by exact HD4.out.below (by repeat (first | exact Below.refl _ _ | apply pw_below_drewN | apply below_drew1))) (by exact BS.below HB4.out (by repeat (first | exact Below.refl _ _ | apply pw_below_drewN | apply below_drew1))) (blockBytes_ok _ _ (by rw [HLEN.out]; exact HLO2.out.2.2.2.1)).2 HOK.out.1 (HOK.out.2.mono (by omega))).mono ?_; rintro e w5 ⟨rfl, hd5, hf5⟩; have hl5 := ((HL'.out.below HW4.out).below (below_drew1 (Below.refl _ _))).frm hf5 (by decide); obtain ⟨hk1, hk2, _⟩ := hl5.cells; rw [HN.out.2.2.1] at hk2))
        have HD5 := Aside0.mk (show DskM (Gr M w w5) w5 dp (writeD dk (fi + k) (blockBytes ep ((L.l.drop (k.toNat * 6)).take 6))) from hd5.mono fun j hj => by
          have z1 := HFR.out.size
          have z2 := HW4.out.size
          have z3 := hf5.size
          simp at z3
          rcases hj with (hj | ⟨h1, h2⟩) | ⟨h1, h2⟩
          · exact .inl hj
          · exact .inr ⟨h1, by omega⟩
          · simp at h1; exact .inr ⟨by omega, h2⟩)
        have HF5 := Aside0.mk (show Frm dTurn M w w5 from (HF4.out.drew).transG (hf5.wide (fun _ h => h) (fun j _ hj => by
          have z2 := HW4.out.size
          rcases hj with hj | ⟨h1, h2⟩
          · exact .inl hj
          · exact .inr ⟨h1, by simp; omega⟩)))
        clear hd5 hf5 hl5 hk1 hk2 f0 f1 hwk
        cases hwe : writeE dk (fi + k) (blockBytes ep ((L.l.drop (k.toNat * 6)).take 6)) with
        | some e =>
          have HFIN := Aside0.mk (show lflush L d = (L, writeD dk (fi + k) (blockBytes ep ((L.l.drop (k.toNat * 6)).take 6)), some e) by
            rw [HR.out, ← HFF.out, show n + 1 - (k.toNat - d0) = (n - (k.toNat - d0)) + 1 from by have := HK.out; have := HLO2.out; omega, flushFrom_err (by rw [HN.out.1]; have := HLO2.out; omega) (by rw [HN.out.2.2.1, HN.out.2.2.2, show ((k.toNat : Nat) : Int) = k from by omega]; exact hwe)]
            rw [HN.out.2.2.1, HN.out.2.2.2, show ((k.toNat : Nat) : Int) = k from by omega]
            rfl)
          rw [show errv a (some e) = .iface 163 (.pointer (some (a e))) from rfl]
          clear hwe
          go_wp2_with fail
          go_ret
          exact ⟨by rw [HFIN.out]; rfl, by rw [HFIN.out]; exact HD5.out, ⟨_, by rw [HFIN.out]; exact (HL.out.frm HF5.out (by decide)).mono fun j hj => .inl hj⟩, frm_app HF5.out⟩
        | none =>
          have HNX := Aside0.mk (show flushFrom L (n + 1 - ((k + 1).toNat - d0)) (k + 1).toNat (writeD dk (fi + k) (blockBytes ep ((L.l.drop (k.toNat * 6)).take 6))) = flushFrom L (n + 1) d0 d by
            rw [← HFF.out, show n + 1 - (k.toNat - d0) = (n - (k.toNat - d0)) + 1 from by have := HK.out; have := HLO2.out; omega, flushFrom_next (by rw [HN.out.1]; have := HLO2.out; omega) (by rw [HN.out.2.2.1, HN.out.2.2.2, show ((k.toNat : Nat) : Int) = k from by omega]; exact hwe)]
            rw [HN.out.2.2.1, HN.out.2.2.2, show ((k.toNat : Nat) : Int) = k from by omega, show (k + 1).toNat = k.toNat + 1 from by omega, show n + 1 - (k.toNat + 1 - d0) = n - (k.toNat - d0) from by have := HK.out; have := HLO2.out; omega])
          rw [show errv a none = .nilIface from rfl]
          clear hwe
          go_wp2_with fail
          go_roundg (gk - 1)
          case measure => have := HK.out; have := HLO2.out; omega
          case rel => exact ⟨k + 1, _, rfl, ⟨by omega, by have := HK.out; omega, by have := HLO2.out; omega, by have := HLO2.out; omega, by have := HK.out; have := HLO2.out; omega⟩, HNX, HD5, HF5, ⟨writeD_fuse _ _ HOK.out.1, (writeD_loose _ _ HOK.out.2).mono (by omega)⟩⟩
      · have HEND := Aside0.mk (show lflush L d = flushEnd L (dk, none) by
          rw [HR.out, ← HFF.out, flushFrom_stop (by rw [HN.out.1]; omega)])
        have hnl : decide (k * 6 < (n : Int)) = false := decide_eq_false hlt
        have hw1 : IntKind.i64.wrap (k * 6) = k * 6 := IntWalk.i64_in _ (by omega)
        clear hlt
        go_wp2_with fail
        refine (sync_disk a (Gr M w wr) dp dk _ HS'.out HO'.out HDK.out HOK.out.1 (fun s hs => Nat.le_trans (HOK.out.2 s hs) (by omega))).mono ?_
        rintro e w5 ⟨rfl, hd5, hf5⟩
        have HF5 := Aside0.mk (show Frm dTurn M w w5 from HFR.out.transG hf5)
        have HD5 := Aside0.mk (show DskM (Gr M w w5) w5 dp (syncD dk) from hd5.mono fun j hj => Gr.grow hf5.size hj)
        have hl5 := HL'.out.frm hf5 (by decide)
        obtain ⟨_, _, _, _, _, g5, g6⟩ := hl5.cells
        have hz6 := hl5.frozen 6
        rw [HN.out.2.1] at g6
        have HL5 := Aside0.mk hl5
        clear hd5 hf5 hl5 e0 e1 e4 e5 e6
        cases hse : syncE dk with
        | some e =>
          have HFIN := Aside0.mk (show lflush L d = (L, syncD dk, some e) by rw [HEND.out]; unfold flushEnd; simp only [hse])
          rw [show errv a (some e) = .iface 163 (.pointer (some (a e))) from rfl]
          clear hse
          go_wp2_with fail
          go_ret
          exact ⟨by rw [HFIN.out]; rfl, by rw [HFIN.out]; exact HD5.out, ⟨.slice A n c, by rw [HFIN.out]; exact HL5.out.mono fun j hj => .inl hj⟩, frm_app HF5.out⟩
        | none =>
          have HFIN := Aside0.mk (show lflush L d = ({ L with done := L.l.length }, syncD dk, none) by rw [HEND.out]; unfold flushEnd; simp only [hse])
          rw [show errv a none = .nilIface from rfl]
          clear hse
          go_wp2_with fail
          go_ret
          obtain ⟨r1, r2⟩ := log_done HL5.out
          rw [HN.out.1] at r1 r2
          refine ⟨by rw [HFIN.out]; rfl, ?_, ⟨.slice A n c, ?_⟩, ?_⟩
          · rw [HFIN.out]
            exact (HD5.out.frm r2 (by decide)).mono fun j hj => by
              rcases hj with hj | ⟨h1, h2⟩
              · exact .inl hj
              · exact .inr ⟨h1, by simpa [World.setCell] using h2⟩
          · rw [HFIN.out]
            have : ({ L with done := L.l.length } : Lg) = { L with done := n } := by rw [HN.out.1]
            rw [this]
            exact r1.mono fun j hj => .inl hj
          · exact (frm_app HF5.out).trans (frm_app2 r2)

end Go.Proofs.YtlgpkbhajloajaaDoor.WalF
/- A pool over a log over a disk, in memory. No condition. -/
namespace Go.Proofs.YtlgpkbhajloajaaDoor.SysM
open Go.RowKit Go.Proofs.YtlgpkbhajloajaaDoorW.PrintWords Go.Proofs.YtlgpkbhajloajaaDoorW.PrintLast Go.Proofs.YtlgpkbhajloajaaDoorW.PrintMore
open Go.Proofs.YtlgpkbhajloajaaDoor.See Go.Proofs.YtlgpkbhajloajaaDoor.Mem Go.Proofs.YtlgpkbhajloajaaDoor.Clone Go.Proofs.YtlgpkbhajloajaaDoor.Cell Go.Proofs.YtlgpkbhajloajaaDoor.Page Go.Proofs.YtlgpkbhajloajaaDoor.PageB Go.Proofs.YtlgpkbhajloajaaDoor.PageR Go.Proofs.YtlgpkbhajloajaaDoor.Disk Go.Proofs.YtlgpkbhajloajaaDoor.DiskW Go.Proofs.YtlgpkbhajloajaaDoor.DiskS Go.Proofs.YtlgpkbhajloajaaDoor.RecD Go.Proofs.YtlgpkbhajloajaaDoor.Pool1 Go.Proofs.YtlgpkbhajloajaaDoor.Pool3 Go.Proofs.YtlgpkbhajloajaaDoor.Wal Go.Proofs.YtlgpkbhajloajaaDoor.WalF Go.Proofs.YtlgpkbhajloajaaDoor.Dirty Go.Proofs.YtlgpkbhajloajaaDoor.Dirty2 Go.Proofs.YtlgpkbhajloajaaDoor.SysD
set_option linter.unusedVariables false
set_option linter.unusedSimpArgs false

def forget (f : Fr) : Fp := ⟨f.n, f.lsn, f.es⟩

/-- Frames in memory, of a region. -/
structure FrsP (M : Nat → Prop) (w : World) (h : Value) (fs : List Fr) (here : List Fp) : Prop where
  frs : FrsM w h fs
  eq : fs.map forget = here
  low : ∀ k, h.ownBlock = some k → M k

/-- What turns of a pool, of all. -/
def fTurn : List Nat := [79, 74]
def sTurn : List Nat := (dTurn ++ lTurn) ++ (tTurn ++ fTurn)

/-- Pages that are here: each once, each one that may be. -/
structure HereOk (here : List Fp) : Prop where
  few : here.length ≤ 8
  once : here.Pairwise fun a b => a.n ≠ b.n
  ok : ∀ f ∈ here, pageOk f.lsn f.es = true

/-- A pool over a log over a disk, in memory. -/
structure SysM (M : Nat → Prop) (w : World) (pp lp dp : Nat) (S : PSys) : Prop where
  dsk : DskM M w dp S.d
  log : ∃ v, LogM M w lp dp v S.l
  pool : ∃ t h fs, TabM M w pp (poolCells t dp lp S.frames h) t S.t ∧ FrsP M w h fs S.here
  fuse : FuseOk S.d
  here : HereOk S.here
  tab : S.t.length ≤ 80000
  frames : 1 ≤ S.frames ∧ S.frames ≤ 8

theorem FrsP.move {M : Nat → Prop} {w w' : World} {h : Value} {fs : List Fr} {here : List Fp} (x : FrsP M w h fs here) (hb : ∀ k, k < w.heap.size → (tag w k = 74 → M k → w'.heap[k]? = w.heap[k]?) ∧ (tag w k = 109 → w'.heap[k]? = w.heap[k]?)) : FrsP M w' h fs here :=
  ⟨⟨ow_move x.frs.row fun k hk => by obtain ⟨_, c, hc⟩ := ow_block x.frs.row hk; exact (hb k (heap_lt hc)).1 (tag_of hc) (x.low k hk),
    fun f hf => ⟨ow_move (x.frs.pages f hf).1 fun k hk => by obtain ⟨_, c, hc⟩ := ow_block (x.frs.pages f hf).1 hk; exact (hb k (heap_lt hc)).2 (tag_of hc), (x.frs.pages f hf).2⟩, x.frs.few⟩, x.eq, x.low⟩
theorem FrsP.below {M : Nat → Prop} {w w' : World} {h : Value} {fs : List Fr} {here : List Fp} (x : FrsP M w h fs here) (hb : Below w.heap.size w w') : FrsP M w' h fs here := x.move fun k hk => ⟨fun _ _ => hb.block k hk, fun _ => hb.block k hk⟩
theorem FrsP.frm {T : List Nat} {M M' : Nat → Prop} {w w' : World} {h : Value} {fs : List Fr} {here : List Fp} (x : FrsP M w h fs here) (hf : Frm T M' w w') (h1 : 74 ∉ T) (h2 : 109 ∉ T) : FrsP M w' h fs here :=
  x.move fun k hk => ⟨fun ht _ => hf.block k hk fun _ => by rw [ht]; exact h1, fun ht => hf.block k hk fun _ => by rw [ht]; exact h2⟩
theorem FrsP.mono {M M' : Nat → Prop} {w : World} {h : Value} {fs : List Fr} {here : List Fp} (x : FrsP M w h fs here) (hm : ∀ k, M k → M' k) : FrsP M' w h fs here := ⟨x.frs, x.eq, fun k hk => hm k (x.low k hk)⟩

theorem TabM.frm {T : List Nat} {M M' : Nat → Prop} {w w' : World} {p : Nat} {cs : Array Value} {v : Value} {ds : List (Int × Int)} (h : TabM M w p cs v ds) (hf : Frm T M' w w') (h1 : 79 ∉ T) (h2 : 57 ∉ T) : TabM M w' p cs v ds :=
  ⟨(hf.at h.box (.inl h1)), h.at0, h.row.frm hf h2, h.low, h.mp, h.rise⟩

theorem SysM.below {M : Nat → Prop} {w w' : World} {pp lp dp : Nat} {S : PSys} (h : SysM M w pp lp dp S) (hb : Below w.heap.size w w') : SysM M w' pp lp dp S := by
  obtain ⟨h1, ⟨v, h2⟩, ⟨t, hv, fs, h3, h4⟩, h5, h6, h7, h8⟩ := h
  exact ⟨h1.below hb, ⟨v, h2.below hb⟩, ⟨t, hv, fs, h3.below hb, h4.below hb⟩, h5, h6, h7, h8⟩
theorem SysM.mono {M M' : Nat → Prop} {w : World} {pp lp dp : Nat} {S : PSys} (h : SysM M w pp lp dp S) (hm : ∀ k, M k → M' k) : SysM M' w pp lp dp S := by
  obtain ⟨h1, ⟨v, h2⟩, ⟨t, hv, fs, h3, h4⟩, h5, h6, h7, h8⟩ := h
  exact ⟨h1.mono hm, ⟨v, h2.mono hm⟩, ⟨t, hv, fs, h3.mono hm, h4.mono hm⟩, h5, h6, h7, h8⟩

/-- Another disk. -/
theorem SysM.disk {M : Nat → Prop} {w w' : World} {pp lp dp : Nat} {S : PSys} {d' : Dsk} (h : SysM M w pp lp dp S) (hd : DskM (Gr M w w') w' dp d') (hf : Frm dTurn M w w') (hfu : FuseOk d') : SysM (Gr M w w') w' pp lp dp { S with d := d' } := by
  obtain ⟨h1, ⟨v, h2⟩, ⟨t, hv, fs, h3, h4⟩, h5, h6, h7, h8⟩ := h
  exact ⟨hd, ⟨v, (h2.frm hf (by decide)).mono fun k hk => .inl hk⟩, ⟨t, hv, fs, (TabM.frm h3 hf (by decide) (by decide)).mono fun k hk => .inl hk, (h4.frm hf (by decide) (by decide)).mono fun k hk => .inl hk⟩, hfu, h6, h7, h8⟩

/-- Another log, another disk. -/
theorem SysM.logd {M : Nat → Prop} {w w' : World} {pp lp dp : Nat} {S : PSys} {d' : Dsk} {L' : Lg} (h : SysM M w pp lp dp S) (hd : DskM (Gr M w w') w' dp d') (hl : ∃ v, LogM (Gr M w w') w' lp dp v L') (hf : Frm (dTurn ++ lTurn) M w w') (hfu : FuseOk d') : SysM (Gr M w w') w' pp lp dp { S with l := L', d := d' } := by
  obtain ⟨h1, ⟨v, h2⟩, ⟨t, hv, fs, h3, h4⟩, h5, h6, h7, h8⟩ := h
  exact ⟨hd, hl, ⟨t, hv, fs, (TabM.frm h3 hf (by decide) (by decide)).mono fun k hk => .inl hk, (h4.frm hf (by decide) (by decide)).mono fun k hk => .inl hk⟩, hfu, h6, h7, h8⟩

theorem poolCells_set0 (t t' h : Value) (d l : Nat) (f : Int) : (poolCells t d l f h).setIfInBounds 0 t' = poolCells t' d l f h := rfl
theorem poolCells_set4 (t h h' : Value) (d l : Nat) (f : Int) : (poolCells t d l f h).setIfInBounds 4 h' = poolCells t d l f h' := rfl

/-- Another table of dirty pages. -/
theorem SysM.tabs {M : Nat → Prop} {w w' : World} {pp lp dp : Nat} {S : PSys} {ds' : List (Int × Int)} {t h : Value} {fs : List Fr} (x : SysM M w pp lp dp S) (ht : TabM M w pp (poolCells t dp lp S.frames h) t S.t) (hh : FrsP M w h fs S.here) (hp : TabPost M pp (poolCells t dp lp S.frames h) ds' w w') (hl : ds'.length ≤ 80000) : SysM (Gr M w w') w' pp lp dp { S with t := ds' } ∧ Frm tTurn M w w' := by
  obtain ⟨h1, ⟨v, h2⟩, _, h5, h6, h7, h8⟩ := x
  obtain ⟨t', htab, hf⟩ := hp
  refine ⟨⟨(h1.frm hf (by decide)).mono fun k hk => .inl hk, ⟨v, (h2.frm hf (by decide)).mono fun k hk => .inl hk⟩, ⟨t', h, fs, ?_, (hh.frm hf (by decide) (by decide)).mono fun k hk => .inl hk⟩, h5, h6, hl, h8⟩, hf⟩
  rw [poolCells_set0] at htab
  exact htab

theorem frm_sys1 {M : Nat → Prop} {w w' : World} (h : Frm dTurn M w w') : Frm sTurn M w w' := frm_app (frm_app h)
theorem frm_sys2 {M : Nat → Prop} {w w' : World} (h : Frm (dTurn ++ lTurn) M w w') : Frm sTurn M w w' := frm_app h
theorem frm_sys3 {M : Nat → Prop} {w w' : World} (h : Frm tTurn M w w') : Frm sTurn M w w' := frm_app2 (frm_app h)
theorem frm_sys4 {M : Nat → Prop} {w w' : World} (h : Frm fTurn M w w') : Frm sTurn M w w' := frm_app2 (frm_app2 h)

/-- Where a page is, and what it is. -/
theorem idx_find (n : Int) : ∀ (fs : List Fr) (k : Int), (findP (fs.map forget) n = none ∧ idxFrom n fs k = -1) ∨ (∃ (i : Nat) (f : Fr), findP (fs.map forget) n = some (forget f) ∧ fs[i]? = some f ∧ f.n = n ∧ idxFrom n fs k = k + i)
  | [], k => .inl ⟨rfl, rfl⟩
  | f :: fs, k => by
    by_cases h : f.n = n
    · refine .inr ⟨0, f, ?_, rfl, h, ?_⟩
      · simp [findP, forget, h]
      · unfold idxFrom; rw [if_pos h]; omega
    · rcases idx_find n fs (k + 1) with ⟨h1, h2⟩ | ⟨i, g, h1, h2, h3, h4⟩
      · refine .inl ⟨?_, by unfold idxFrom; rw [if_neg h]; exact h2⟩
        unfold findP at h1 ⊢
        rw [List.map_cons, List.find?_cons]
        simp only [forget, h, decide_false]
        exact h1
      · refine .inr ⟨i + 1, g, ?_, by simpa using h2, h3, by unfold idxFrom; rw [if_neg h, h4]; omega⟩
        unfold findP at h1 ⊢
        rw [List.map_cons, List.find?_cons]
        simp only [forget, h, decide_false]
        exact h1

/-- What pool.Flush does behind the log. -/
def flushTail (S : PSys) (n : Int) (f : Fp) : PSys × Option Nat :=
  match writeE S.d n (pageBytes f.lsn f.es) with
  | some e => ({ S with d := writeD S.d n (pageBytes f.lsn f.es) }, some e)
  | none => ({ S with d := writeD S.d n (pageBytes f.lsn f.es), t := dropT S.t n }, none)

theorem flushS_none {S : PSys} {n : Int} (h : findP S.here n = none) : flushS S n = (S, none) := by unfold flushS; rw [h]
theorem flushS_clean {S : PSys} {n : Int} (h : has S.t n = false) : flushS S n = (S, none) := by
  unfold flushS
  cases findP S.here n with
  | none => rfl
  | some f => simp [h]
theorem flushS_tail {S : PSys} {n : Int} {f : Fp} (hf : findP S.here n = some f) (h : has S.t n = true) (hl : ¬ S.l.doneN < f.lsn) : flushS S n = flushTail S n f := by
  unfold flushS flushTail
  rw [hf]
  simp only [h, hl, if_false, Bool.true_eq_false]
  cases writeE S.d n (pageBytes f.lsn f.es) <;> rfl
theorem flushS_log {S : PSys} {n : Int} {f : Fp} (hf : findP S.here n = some f) (h : has S.t n = true) (hl : S.l.doneN < f.lsn) {L' : Lg} {d' : Dsk} (hq : lflush S.l S.d = (L', d', none)) : flushS S n = flushTail { S with l := L', d := d' } n f := by
  unfold flushS flushTail
  rw [hf]
  simp only [h, hl, if_true, if_false, Bool.true_eq_false, hq]
  cases writeE d' n (pageBytes f.lsn f.es) <;> rfl
theorem flushS_err {S : PSys} {n : Int} {f : Fp} (hf : findP S.here n = some f) (h : has S.t n = true) (hl : S.l.doneN < f.lsn) {L' : Lg} {d' : Dsk} {e : Nat} (hq : lflush S.l S.d = (L', d', some e)) : flushS S n = ({ S with l := L', d := d' }, some e) := by
  unfold flushS
  rw [hf]
  simp only [h, hl, if_true, if_false, Bool.true_eq_false, hq]

/-- How a log's flush turns what a disk's bounds are. -/
theorem flushFrom_ok {L : Lg} : ∀ (f k : Nat) (d : Dsk) (m : Nat), FuseOk d → LooseLe d m → FuseOk (flushFrom L f k d).1 ∧ LooseLe (flushFrom L f k d).1 (m + f) ∧ (flushFrom L f k d).1.l.length = d.l.length
  | 0, k, d, m, h1, h2 => ⟨h1, h2, rfl⟩
  | f + 1, k, d, m, h1, h2 => by
    by_cases hk : k * 6 < L.l.length
    · cases he : writeE d (L.first + k) (blockBytes L.epoch ((L.l.drop (k * 6)).take 6)) with
      | some e =>
        rw [flushFrom_err hk he]
        exact ⟨writeD_fuse _ _ h1, (writeD_loose _ _ h2).mono (by omega), writeD_len _ _ _⟩
      | none =>
        rw [flushFrom_next hk he]
        obtain ⟨a, b, c⟩ := flushFrom_ok f (k + 1) _ (m + 1) (writeD_fuse _ _ h1) (writeD_loose _ _ h2)
        exact ⟨a, b.mono (by omega), by rw [c, writeD_len]⟩
    · rw [flushFrom_stop hk]
      exact ⟨h1, h2.mono (by omega), rfl⟩
theorem syncD_ok {d : Dsk} {m : Nat} (h1 : FuseOk d) (h2 : LooseLe d m) : FuseOk (syncD d) ∧ LooseLe (syncD d) m ∧ (syncD d).l.length = d.l.length := by
  unfold syncD
  split
  · exact ⟨h1, h2, rfl⟩
  · split
    · refine ⟨spendD_fuse h1, fun s hs => ?_, by simp⟩
      obtain ⟨s0, _, rfl⟩ := List.mem_map.1 hs
      simp [fastS]
    · exact ⟨spendD_fuse h1, fun s hs => h2 s (by rw [spendD_l] at hs; exact hs), by rw [spendD_l]⟩
theorem lflush_ok {L : Lg} {d : Dsk} {m : Nat} (h1 : FuseOk d) (h2 : LooseLe d m) : FuseOk (lflush L d).2.1 ∧ LooseLe (lflush L d).2.1 (m + (L.l.length + 1)) ∧ (lflush L d).2.1.l.length = d.l.length := by
  by_cases h : L.done = L.l.length
  · unfold lflush; rw [if_pos h]; exact ⟨h1, h2.mono (by omega), rfl⟩
  · rw [lflush_end h]
    obtain ⟨a, b, c⟩ := flushFrom_ok (L := L) (L.l.length + 1) (L.done / 6) d m h1 h2
    generalize flushFrom L (L.l.length + 1) (L.done / 6) d = r at a b c
    obtain ⟨d', o⟩ := r
    cases o with
    | some e => exact ⟨a, b, c⟩
    | none =>
      obtain ⟨x, y, z⟩ := syncD_ok a b
      unfold flushEnd
      simp only
      cases syncE d' with
      | some e => exact ⟨x, y, z.trans c⟩
      | none => exact ⟨x, y, z.trans c⟩

end Go.Proofs.YtlgpkbhajloajaaDoor.SysM
/- The contract of pool.Flush. No condition but that api's errors are what their text says. -/
namespace Go.Proofs.YtlgpkbhajloajaaDoor.PoolF
open Go.RowKit Go.Proofs.YtlgpkbhajloajaaDoorW.PrintWords Go.Proofs.YtlgpkbhajloajaaDoorW.PrintLast Go.Proofs.YtlgpkbhajloajaaDoorW.PrintMore
open Go.Proofs.YtlgpkbhajloajaaDoor.See Go.Proofs.YtlgpkbhajloajaaDoor.Mem Go.Proofs.YtlgpkbhajloajaaDoor.Clone Go.Proofs.YtlgpkbhajloajaaDoor.Cell Go.Proofs.YtlgpkbhajloajaaDoor.Page Go.Proofs.YtlgpkbhajloajaaDoor.PageB Go.Proofs.YtlgpkbhajloajaaDoor.PageR Go.Proofs.YtlgpkbhajloajaaDoor.Disk Go.Proofs.YtlgpkbhajloajaaDoor.DiskW Go.Proofs.YtlgpkbhajloajaaDoor.DiskS Go.Proofs.YtlgpkbhajloajaaDoor.RecD Go.Proofs.YtlgpkbhajloajaaDoor.Pool1 Go.Proofs.YtlgpkbhajloajaaDoor.Pool3 Go.Proofs.YtlgpkbhajloajaaDoor.Wal Go.Proofs.YtlgpkbhajloajaaDoor.WalF Go.Proofs.YtlgpkbhajloajaaDoor.Dirty Go.Proofs.YtlgpkbhajloajaaDoor.Dirty2 Go.Proofs.YtlgpkbhajloajaaDoor.SysD Go.Proofs.YtlgpkbhajloajaaDoor.SysM
attribute [local go_sem] max2_imax min2_imin max_two min_two
set_option linter.unusedVariables false
set_option linter.unusedSimpArgs false

/-- What pool.Flush comes to. -/
def PFlushPost (a : Nat → Addr) (M : Nat → Prop) (pp lp dp : Nat) (S : PSys) (n : Int) (w : World) (e : Ending) (w' : World) : Prop :=
  e = .returned (errv a (flushS S n).2) ∧ SysM (Gr M w w') w' pp lp dp (flushS S n).1 ∧ Frm sTurn M w w'

/-- What is read of a pool's block. -/
theorem pool_cells {M : Nat → Prop} {w : World} {pp lp dp : Nat} {t h : Value} {f : Int} {ds : List (Int × Int)} (x : TabM M w pp (poolCells t dp lp f h) t ds) :
    w.cell? ⟨pp, 0, none⟩ = some t ∧ w.cell? ⟨pp, 1, none⟩ = some (.pointer (some ⟨dp, 0, none⟩)) ∧ w.cell? ⟨pp, 2, none⟩ = some (.pointer (some ⟨lp, 0, none⟩)) ∧ w.cell? ⟨pp, 3, none⟩ = some (.int .i64 f) ∧ w.cell? ⟨pp, 4, none⟩ = some h := by
  refine ⟨?_, ?_, ?_, ?_, ?_⟩ <;> simp [World.cell?, x.box, poolCells]

theorem dropT_len (ds : List (Int × Int)) (n : Int) : (dropT ds n).length ≤ ds.length := by
  unfold dropT; split
  · exact (List.eraseIdx_sublist _ _).length_le
  · exact Nat.le_refl _

theorem gr_gr {M : Nat → Prop} {w w1 w2 w3 : World} (h1 : w.heap.size ≤ w1.heap.size) (h2 : w1.heap.size ≤ w2.heap.size) (h3 : w2.heap.size ≤ w3.heap.size) {k : Nat} (h : Gr (Gr M w w1) w2 w3 k) : Gr M w w3 k := by
  rcases h with (h | ⟨ha, hb⟩) | ⟨ha, hb⟩
  · exact .inl h
  · exact .inr ⟨ha, by omega⟩
  · exact .inr ⟨by omega, hb⟩

theorem frm_gr {T : List Nat} {M : Nat → Prop} {w w1 w2 w3 : World} (h0 : Frm T M w w1) (h : Below w1.heap.size w1 w2) (k : Frm T (Gr M w w1) w2 w3) : Frm T M w w3 :=
  (h0.step h).transG (k.wide (fun _ h => h) fun j _ hj => by
    rcases hj with hj | ⟨a, b⟩
    · exact .inl hj
    · exact .inr ⟨a, by have := h.size; omega⟩)

set_option maxHeartbeats 8000000 in
set_option maxRecDepth 100000 in
theorem flush_pool (a : Nat → Addr) (M : Nat → Prop) (pp lp dp : Nat) (S : PSys) (n : Int) (w : World) (hs : Sents w a) (hO : Out M a) (x : SysM M w pp lp dp S) (hlo : LooseLe S.d 40000) :
    Calls Tryd.prog 21 #[.pointer (some ⟨pp, 0, none⟩), .int .i64 n] w (PFlushPost a M pp lp dp S n w) := by
  obtain ⟨t, h, fs, ht, hh⟩ := x.pool
  obtain ⟨c0, c1, c2, c3, c4⟩ := pool_cells ht
  have HS := Aside0.mk hs
  have HO := Aside0.mk hO
  have HX := Aside0.mk x
  have HT := Aside0.mk ht
  have HH := Aside0.mk hh
  have HLO := Aside0.mk hlo
  have HAT := Aside0.mk (at_pool pp h fs n w hh.frs c4)
  have hpl := heap_lt ht.box
  have HPOST := Aside0.mk (show flushS S n = (S, none) → ∀ w', Below w.heap.size w w' → PFlushPost a M pp lp dp S n w (.returned .nilIface) w' from fun h0 w' hb => ⟨by rw [h0]; rfl, by rw [h0]; exact (x.below hb).mono fun k hk => .inl hk, Frm.of_below hb⟩)
  have HIF := Aside0.mk (idx_find n fs 0)
  have HFR := Aside0.mk (fun W h1 h2 h3 => from_calls pp t S.t n W h1 h2 h3)
  clear hs hO x ht hh hlo
  cases hhas : has S.t n with
  | false =>
    obtain ⟨ix, hix⟩ : ∃ ix : Int, idxOf fs n = ix := ⟨_, rfl⟩
    have hat := HAT.out
    rw [hix] at hat
    replace HAT := Aside0.mk hat
    replace HPOST := Aside0.mk (HPOST.out (flushS_clean hhas))
    have HHAS := Aside0.mk hhas
    clear hat hix hhas c1 c2 c3 c4
    by_cases hneg : ix < 0
    all_goals
      go_enter Tryd.func21, Tryd.ntmps21
      go_wp2_with fail
      refine HAT.out.mono ?_
      rintro e w1 ⟨rfl, hb⟩
      have HB := Aside0.mk hb
      clear hb
      go_wp2_with fail
      refine (HFR.out _ (HT.out.below HB.out).row HT.out.rise (HT.out.below HB.out).cell).mono ?_
      rintro e w2 ⟨rfl, hb⟩
      rw [HHAS.out]
      replace HB := Aside0.mk (below_step HB.out hb)
      clear hb
      go_wp2_with fail
      go_ret
      exact HPOST.out _ HB.out
  | true =>
    have HHAS := Aside0.mk hhas
    clear hhas
    rcases HIF.out with ⟨hn, hi⟩ | ⟨i, f, hfd, hfi, hfn, hi⟩
    · have hat := HAT.out
      rw [show idxOf fs n = -1 from hi] at hat
      replace HAT := Aside0.mk hat
      replace HPOST := Aside0.mk (HPOST.out (flushS_none (by rw [← HH.out.eq]; exact hn)))
      clear hat hn hi c1 c2 c3 c4
      go_enter Tryd.func21, Tryd.ntmps21
      go_wp2_with fail
      refine HAT.out.mono ?_
      rintro e w1 ⟨rfl, hb⟩
      have HB := Aside0.mk hb
      clear hb
      go_wp2_with fail
      refine (HFR.out _ (HT.out.below HB.out).row HT.out.rise (HT.out.below HB.out).cell).mono ?_
      rintro e w2 ⟨rfl, hb⟩
      rw [HHAS.out]
      replace HB := Aside0.mk (below_step HB.out hb)
      clear hb
      go_wp2_with fail
      go_ret
      exact HPOST.out _ HB.out
    · have hat := HAT.out
      rw [show idxOf fs n = (i : Int) from by unfold idxOf; rw [hi]; omega] at hat
      replace HAT := Aside0.mk hat
      have hil : i < 8 := by have := (List.getElem?_eq_some_iff.1 hfi).1; have := HH.out.frs.few; omega
      obtain ⟨A, cap, hv, _⟩ := ow_slice HH.out.frs.row
      obtain ⟨fl, hfl⟩ : ∃ fl, fs.length = fl := ⟨_, rfl⟩
      have hifl : i < fl := by rw [← hfl]; exact (List.getElem?_eq_some_iff.1 hfi).1
      rw [hfl] at hv
      have HFI := Aside0.mk hfi
      have HFD := Aside0.mk (show findP S.here n = some (forget f) by rw [← HH.out.eq]; exact hfd)
      have HOKF := Aside0.mk (show pageOk f.lsn f.es = true from HX.out.here.ok (forget f) (by rw [← HH.out.eq]; exact List.mem_map_of_mem (List.mem_of_getElem? hfi)))
      obtain ⟨fn, lsn, fv, es⟩ := f
      simp only at hfn
      clear hat hfd hfi hi hfn hfl HIF HPOST
      go_enter Tryd.func21, Tryd.ntmps21
      go_wp2_with fail
      refine HAT.out.mono ?_
      rintro e w1 ⟨rfl, hb⟩
      have HB := Aside0.mk hb
      clear hb
      go_wp2_with fail
      refine (HFR.out _ (HT.out.below HB.out).row HT.out.rise (HT.out.below HB.out).cell).mono ?_
      rintro e w2 ⟨rfl, hb⟩
      rw [HHAS.out]
      replace HB := Aside0.mk (below_step HB.out hb)
      clear hb
      have ht2 := HT.out.below HB.out
      have hh2 := HH.out.below HB.out
      obtain ⟨g0, g1, g2, g3, g4⟩ := pool_cells ht2
      subst hv
      obtain ⟨g, hA, _, d0, d1, d2, A', c', hfv⟩ := hh2.frs.at HFI.out
      simp only at d0 d1 d2 hfv
      have HP2 := Aside0.mk (show P2 w2 109 fv es from hh2.frs.pages ⟨fn, lsn, fv, es⟩ (List.mem_of_getElem? HFI.out))
      subst hA hfv
      have hii : (0 : Int) ≤ (i : Int) := by omega
      have hpl2 := heap_lt ht2.box
      have HX2 := Aside0.mk (HX.out.below HB.out)
      clear c0 c1 c2 c3 c4 ht2 hh2 d0
      go_wp2_with fail
      obtain ⟨lv, hlg⟩ := HX2.out.log
      have HLG := Aside0.mk hlg
      obtain ⟨dn, hdn⟩ : ∃ dn, S.l.doneN = dn := ⟨_, rfl⟩
      have HDN := Aside0.mk hdn
      have hz2 : w2.heap.size < w2.heap.size + 1 := by omega
      clear hlg hdn
      go_region_held3 (fun w' => w'.cell? ⟨w2.heap.size, 0, none⟩ = some (.int .i64 lsn) ∧ w'.cell? ⟨pp, 2, none⟩ = some (.pointer (some ⟨lp, 0, none⟩)))
        (refine ⟨?_, ?_⟩ <;> (first | go_keep | exact hk1 | exact hk2))
        (first | (go_at_call 22; refine (done_log M lp dp lv S.l _ (by exact HLG.out.below (by repeat (first | exact Below.refl _ _ | apply below_drew1 | apply below_alloc)))).mono ?_; rintro e w3 ⟨rfl, hb⟩; rw [HDN.out]; have hk1 : w3.cell? ⟨w2.heap.size, 0, none⟩ = some (.int .i64 lsn) := pw_cell_below hb (by simp); have hk2 : w3.cell? ⟨pp, 2, none⟩ = some (.pointer (some ⟨lp, 0, none⟩)) := pw_cell_below hb (by show (w2.alloc _).cell? _ = _; rw [World.cell?_alloc_lt _ _ _ (by exact hpl2)]; exact g2)))
      have HBK := Aside0.mk (show w3.heap[w2.heap.size]? = some (.cells #[.int .i64 lsn, .slice A' es.length c'] 32 (0, 0)) from (hb.block w2.heap.size (by simp)).trans (heap_alloc_new w2 _))
      have HB3 := Aside0.mk (show Below w2.heap.size w2 w3 from below_step (by repeat (first | exact Below.refl _ _ | apply below_drew1 | apply below_alloc)) hb)
      have f2 : w3.cell? ⟨pp, 2, none⟩ = some (.pointer (some ⟨lp, 0, none⟩)) := hk2
      clear hb hk1 hk2 g0 g1 g2 g3 g4 d1 d2 hz2
      have HB30 := Aside0.mk (below_step HB.out HB3.out)
      have HX3 := Aside0.mk (HX.out.below HB30.out)
      have HS3 := Aside0.mk (HS.out.below HB30.out)
      have HP3 := Aside0.mk (P2.below HP2.out HB3.out)
      go_upto_if 45 with fail
      go_cut [] (fun wx => ∃ S1 : PSys, Aside0 (SysM (Gr M w wx) wx pp lp dp S1) ∧ Aside0 (Frm sTurn M w wx) ∧ Aside0 (LooseLe S1.d 48000) ∧ Aside0 (flushS S n = flushTail S1 n ⟨fn, lsn, es⟩) ∧ Aside0 (wx.heap[w2.heap.size]? = some (.cells #[.int .i64 lsn, .slice A' es.length c'] 32 (0, 0))) ∧ Aside0 (P2 wx 109 (.slice A' es.length c') es))
      case first =>
        by_cases hdl : dn < lsn
        · have HDL := Aside0.mk (show S.l.doneN < (⟨fn, lsn, es⟩ : Fp).lsn by rw [HDN.out]; exact hdl)
          have q1 : decide (dn < lsn) = true := decide_eq_true hdl
          clear hdl
          rw [q1]
          go_wp2_with fail
          refine (flush_log a M lp dp lv S.l S.d _ HS3.out HO.out HX3.out.dsk (HLG.out.below HB3.out) HX.out.fuse (HLO.out.mono (by omega))).mono ?_
          rintro e w4 ⟨rfl, hd4, hl4, hf4⟩
          obtain ⟨o1, o2, o3⟩ := lflush_ok (L := S.l) HX.out.fuse HLO.out
          have hll := (lg_bounds HLG.out.ok).2.2.2.2.2.2.1
          have HF4 := Aside0.mk (show Frm sTurn M w w4 from (Frm.of_below HB30.out).trans (frm_sys2 hf4))
          have HX4 := Aside0.mk (show SysM (Gr M w w4) w4 pp lp dp { S with l := (lflush S.l S.d).1, d := (lflush S.l S.d).2.1 } from (HX3.out.logd hd4 hl4 hf4 o1).mono fun k hk => by
            rcases hk with hk | ⟨h1, h2⟩
            · exact .inl hk
            · exact .inr ⟨by have := HB30.out.size; omega, h2⟩)
          have HL4 := Aside0.mk (show LooseLe (lflush S.l S.d).2.1 48000 from o2.mono (by omega))
          have HBK4 := Aside0.mk (hf4.at HBK.out (.inl (by decide)))
          have HP4 := Aside0.mk (HP3.out.frm hf4 (by decide))
          clear hd4 hl4 hf4 o1 o2 o3 hll
          obtain ⟨q, hq⟩ : ∃ q, lflush S.l S.d = q := ⟨_, rfl⟩
          obtain ⟨L', d', o⟩ := q
          rw [hq] at HX4 HL4
          rw [hq]
          simp only at HX4 HL4
          have HQ := Aside0.mk hq
          clear hq
          cases o with
          | some e =>
            have HR := Aside0.mk (flushS_err HFD.out HHAS.out HDL.out HQ.out)
            rw [show errv a (L', d', some e).2.2 = .iface 163 (.pointer (some (a e))) from rfl]
            go_wp2_with fail
            go_ret
            exact ⟨by rw [HR.out]; rfl, by rw [HR.out]; exact HX4.out, HF4.out⟩
          | none =>
            have HR := Aside0.mk (flushS_log HFD.out HHAS.out HDL.out HQ.out)
            rw [show errv a (L', d', none).2.2 = .nilIface from rfl]
            go_wp2_with fail
            go_meet
            exact ⟨_, HX4, HF4, HL4, HR, HBK4, HP4⟩
        · have HR := Aside0.mk (flushS_tail HFD.out HHAS.out (show ¬ S.l.doneN < (⟨fn, lsn, es⟩ : Fp).lsn by rw [HDN.out]; exact hdl))
          have q1 : decide (dn < lsn) = false := decide_eq_false hdl
          clear hdl
          rw [q1]
          go_wp2_with fail
          go_meet
          exact ⟨S, ⟨HX3.out.mono fun k hk => .inl hk⟩, ⟨Frm.of_below HB30.out⟩, ⟨HLO.out.mono (by omega)⟩, HR, HBK, HP3⟩
      case rest =>
        obtain ⟨S1, HX4, HF4, HL4, HFT, HBK4, HP4⟩ := hcut
        have e0 : wc.cell? ⟨w2.heap.size, 0, none⟩ = some (.int .i64 lsn) := by simp [World.cell?, HBK4.out]
        have e1 : wc.cell? ⟨w2.heap.size, 1, none⟩ = some (.slice A' es.length c') := by simp [World.cell?, HBK4.out]
        have HS4 := Aside0.mk (sents_frm HS.out HF4.out HO.out)
        have HO4 := Aside0.mk (HO.out.gr HS.out (w' := wc))
        clear f2
        go_wp2_with fail
        refine (bytes_calls a lsn _ es _ HS4.out HP4.out).mono ?_
        rintro e w5 ⟨b5, rfl, hb5, hB5⟩
        have hce : checkE lsn es = none := by unfold checkE; rw [HOKF.out]; rfl
        rw [hce, show errv a none = .nilIface from rfl]
        have HBS5 := Aside0.mk (show BS w5 b5 (pageBytes lsn es) by have h := hb5; unfold bytesV at h; rw [HOKF.out] at h; exact h)
        have HB5 := Aside0.mk hB5
        obtain ⟨t1, h1, fs1, ht1, hh1⟩ := HX4.out.pool
        obtain ⟨_, k1, _, _, _⟩ := pool_cells (ht1.below hB5)
        obtain ⟨A5, c5, rfl, _⟩ := Rd.form hb5
        clear hb5 hB5 hce e0 e1 ht1 hh1
        go_wp2_with fail
        refine (write_disk a (Gr M w wc) dp S1.d n _ (pageBytes lsn es) _ (HS4.out.below HB5.out) HO4.out (HX4.out.dsk.below HB5.out) HBS5.out (pbN_isB lsn es _) HX4.out.fuse (HL4.out.mono (by omega))).mono ?_
        rintro e w6 ⟨rfl, hd6, hf6⟩
        have hz1 := HF4.out.size
        have hz2 := HB5.out.size
        have hz3 := hf6.size
        have HX6 := Aside0.mk (show SysM (Gr M w w6) w6 pp lp dp { S1 with d := writeD S1.d n (pageBytes lsn es) } from ((HX4.out.below HB5.out).disk hd6 hf6 (writeD_fuse _ _ HX4.out.fuse)).mono fun k hk => gr_gr hz1 hz2 hz3 hk)
        have HF6 := Aside0.mk (show Frm sTurn M w w6 from frm_gr HF4.out HB5.out (frm_sys1 hf6))
        clear hd6 hf6 hz1 hz2 hz3 k1
        cases hwe : writeE S1.d n (pageBytes lsn es) with
        | some e =>
          have HR := Aside0.mk (show flushS S n = ({ S1 with d := writeD S1.d n (pageBytes lsn es) }, some e) by rw [HFT.out]; unfold flushTail; simp only [hwe])
          rw [show errv a (some e) = .iface 163 (.pointer (some (a e))) from rfl]
          clear hwe
          go_wp2_with fail
          go_ret
          exact ⟨by rw [HR.out]; rfl, by rw [HR.out]; exact HX6.out, HF6.out⟩
        | none =>
          have HR := Aside0.mk (show flushS S n = ({ S1 with d := writeD S1.d n (pageBytes lsn es), t := dropT S1.t n }, none) by rw [HFT.out]; unfold flushTail; simp only [hwe])
          rw [show errv a none = .nilIface from rfl]
          clear hwe
          obtain ⟨t6, h6, fs6, ht6, hh6⟩ := HX6.out.pool
          have HT6 := Aside0.mk ht6
          have HH6 := Aside0.mk hh6
          clear ht6 hh6
          go_wp2_with fail
          refine (drop_calls (Gr M w w6) pp _ t6 S1.t n _ HT6.out (by have := HX4.out.tab; omega)).mono ?_
          rintro e w7 ⟨rfl, hp7⟩
          obtain ⟨hx7, hf7⟩ := HX6.out.tabs HT6.out HH6.out hp7 (Nat.le_trans (dropT_len _ _) HX4.out.tab)
          have HX7 := Aside0.mk hx7
          have HF7 := Aside0.mk hf7
          clear hp7 hx7 hf7
          go_wp2_with fail
          go_ret
          exact ⟨by rw [HR.out]; rfl, by rw [HR.out]; exact HX7.out.mono fun k hk => Gr.trans HF6.out.size HF7.out.size hk, HF6.out.transG (frm_sys3 HF7.out)⟩

end Go.Proofs.YtlgpkbhajloajaaDoor.PoolF
/- The contract of pool.Evict. No condition but that api's errors are what their text says. -/
namespace Go.Proofs.YtlgpkbhajloajaaDoor.PoolE
open Go.RowKit Go.Proofs.YtlgpkbhajloajaaDoorW.PrintWords Go.Proofs.YtlgpkbhajloajaaDoorW.PrintLast Go.Proofs.YtlgpkbhajloajaaDoorW.PrintMore
open Go.Proofs.YtlgpkbhajloajaaDoor.See Go.Proofs.YtlgpkbhajloajaaDoor.Mem Go.Proofs.YtlgpkbhajloajaaDoor.Clone Go.Proofs.YtlgpkbhajloajaaDoor.Cell Go.Proofs.YtlgpkbhajloajaaDoor.Page Go.Proofs.YtlgpkbhajloajaaDoor.PageB Go.Proofs.YtlgpkbhajloajaaDoor.PageR Go.Proofs.YtlgpkbhajloajaaDoor.Disk Go.Proofs.YtlgpkbhajloajaaDoor.DiskW Go.Proofs.YtlgpkbhajloajaaDoor.DiskS Go.Proofs.YtlgpkbhajloajaaDoor.RecD Go.Proofs.YtlgpkbhajloajaaDoor.Pool1 Go.Proofs.YtlgpkbhajloajaaDoor.Pool3 Go.Proofs.YtlgpkbhajloajaaDoor.Wal Go.Proofs.YtlgpkbhajloajaaDoor.WalF Go.Proofs.YtlgpkbhajloajaaDoor.Dirty Go.Proofs.YtlgpkbhajloajaaDoor.Dirty2 Go.Proofs.YtlgpkbhajloajaaDoor.SysD Go.Proofs.YtlgpkbhajloajaaDoor.SysM Go.Proofs.YtlgpkbhajloajaaDoor.PoolF Go.Proofs.YtlgpkbhajloajaaDoor.Del
attribute [local go_sem] max2_imax min2_imin max_two min_two
set_option linter.unusedVariables false
set_option linter.unusedSimpArgs false

/-- The frames' row turned, then its cell. -/
theorem sys_here {M : Nat → Prop} {w w1 : World} {pp lp dp : Nat} {S : PSys} {t h h' : Value} {fs fs' : List Fr} (x : SysM M w pp lp dp S) (ht : TabM M w pp (poolCells t dp lp S.frames h) t S.t) (hh : FrsP M w h fs S.here)
    (ho : w1.ownsRow 0 74 3 h' fs'.length (frCells fs')) (hp : ∀ f ∈ fs', P2 w1 109 f.v f.es) (hok : HereOk (fs'.map forget)) (hg : w.grownBy w1 h.ownBlock) (hat : h'.ownBlock = h.ownBlock ∨ ∀ k, h'.ownBlock = some k → w.heap.size ≤ k) :
    SysM (Gr M w w1) (w1.setCell ⟨pp, 4, none⟩ h') pp lp dp { S with here := fs'.map forget } ∧ Frm fTurn M w (w1.setCell ⟨pp, 4, none⟩ h') := by
  have hpl := heap_lt ht.box
  have hhn : h.ownBlock ≠ some pp := fun e => by
    obtain ⟨_, c, hc⟩ := ow_block hh.frs.row e
    rw [ht.box] at hc
    injection hc with hc; injection hc with _ hc
    exact absurd hc (by decide)
  have hb1 : w1.heap[pp]? = some (.cells (poolCells t dp lp S.frames h) 79 (0, 0)) := (hg.block pp hpl (fun e => hhn e.symm)).trans ht.box
  have hF1 : Frm fTurn M w w1 := (Frm.refl fTurn M w).grown hg (fun k hk hlt => ⟨hh.low k hk, by obtain ⟨_, c, hc⟩ := ow_block hh.frs.row hk; rw [tag_of hc]; decide⟩)
  have hF : Frm fTurn M w (w1.setCell ⟨pp, 4, none⟩ h') := hF1.set (fun _ => ⟨ht.mp, by rw [tag_of ht.box]; decide⟩) _
  have hne : ∀ (k : Nat) (c : Array Value) (e : Nat), w1.heap[k]? = some (.cells c e (0, 0)) → e ≠ 79 → k ≠ pp := fun k c e hk he e2 => by
    subst e2
    rw [hb1] at hk
    injection hk with hk; injection hk with _ hk
    exact he hk.symm
  have hmv : ∀ (k : Nat) (c : Array Value) (e : Nat), w1.heap[k]? = some (.cells c e (0, 0)) → e ≠ 79 → (w1.setCell ⟨pp, 4, none⟩ h').heap[k]? = w1.heap[k]? := fun k c e hk he => Below.heap_setCell _ _ _ _ (hne k c e hk he)
  obtain ⟨x1, ⟨v, x2⟩, _, x5, x6, x7, x8⟩ := x
  refine ⟨⟨(x1.frm hF (by decide)).mono fun k hk => .inl hk, ⟨v, (x2.frm hF (by decide)).mono fun k hk => .inl hk⟩, ⟨t, h', fs', ⟨?_, ht.at0, ht.row.frm hF (by decide), fun k hk => .inl (ht.low k hk), .inl ht.mp, ht.rise⟩, ⟨⟨?_, fun f hf => ⟨?_, (hp f hf).2⟩, ?_⟩, rfl, fun k hk => ?_⟩⟩, x5, hok, x7, x8⟩, hF⟩
  · rw [heap_setCell_same _ _ _ _ _ _ hb1, poolCells_set4]
  · exact ow_move ho fun k hk => by obtain ⟨_, c, hc⟩ := ow_block ho hk; exact hmv k c _ hc (by decide)
  · exact ow_move (hp f hf).1 fun k hk => by obtain ⟨_, c, hc⟩ := ow_block (hp f hf).1 hk; exact hmv k c _ hc (by decide)
  · have := hok.few; simpa using this
  · rcases hat with hat | hat
    · exact .inl (hh.low k (hat ▸ hk))
    · obtain ⟨_, c, hc⟩ := ow_block ho hk
      exact .inr ⟨hat k hk, heap_lt hc⟩

theorem map_erase {α β : Type} (f : α → β) : ∀ (l : List α) (k : Nat), (l.eraseIdx k).map f = (l.map f).eraseIdx k
  | [], k => rfl
  | x :: l, 0 => rfl
  | x :: l, k + 1 => by simp [map_erase f l k]

theorem here_erase {here : List Fp} (h : HereOk here) (k : Nat) : HereOk (here.eraseIdx k) :=
  ⟨Nat.le_trans (List.eraseIdx_sublist _ _).length_le h.few, h.once.sublist (List.eraseIdx_sublist _ _), fun f hf => h.ok f ((List.eraseIdx_sublist _ _).mem hf)⟩

theorem frCells_erase (fs : List Fr) (i : Nat) (h : i < fs.length) : frCells (fs.eraseIdx i) = (frCells fs).take (i * 3) ++ (frCells fs).drop ((i + 1) * 3) := by
  induction fs generalizing i with
  | nil => simp at h
  | cons d ds ih =>
    cases i with
    | zero => simp [frCells, List.flatMap_cons]
    | succ i =>
      have := ih i (by simpa using h)
      unfold frCells at this ⊢
      simp only [List.eraseIdx_cons_succ, List.flatMap_cons]
      rw [this]
      have e1 : ∀ X : List Value, ([Value.int .i64 d.n, Value.int .i64 d.lsn, d.v] ++ X).take ((i + 1) * 3) = [Value.int .i64 d.n, Value.int .i64 d.lsn, d.v] ++ X.take (i * 3) := fun X => by
        rw [show (i + 1) * 3 = i * 3 + 1 + 1 + 1 from by omega]; rfl
      have e2 : ∀ X : List Value, ([Value.int .i64 d.n, Value.int .i64 d.lsn, d.v] ++ X).drop ((i + 1 + 1) * 3) = X.drop ((i + 1) * 3) := fun X => by
        rw [show (i + 1 + 1) * 3 = (i + 1) * 3 + 1 + 1 + 1 from by omega]; rfl
      rw [e1, e2, List.append_assoc]

theorem frCells_one (fs : List Fr) (w : World) (hp : ∀ f ∈ fs, P2 w 109 f.v f.es) : ∀ u ∈ frCells fs, u.oneCell' = true := fun u hu => by
  obtain ⟨f, hf, h⟩ := List.mem_flatMap.1 hu
  obtain ⟨A, c, hv, _⟩ := ow_slice (hp f hf).1
  simp only [List.mem_cons, List.not_mem_nil, or_false] at h
  rcases h with rfl | rfl | rfl
  · rfl
  · rfl
  · rw [hv]; rfl

theorem flushS_here (S : PSys) (n : Int) : (flushS S n).1.here = S.here ∧ (flushS S n).1.frames = S.frames := by
  cases hf : findP S.here n with
  | none => rw [flushS_none hf]; exact ⟨rfl, rfl⟩
  | some f =>
    cases hh : has S.t n with
    | false => rw [flushS_clean hh]; exact ⟨rfl, rfl⟩
    | true =>
      have tail : ∀ S1 : PSys, (flushTail S1 n f).1.here = S1.here ∧ (flushTail S1 n f).1.frames = S1.frames := fun S1 => by
        unfold flushTail
        cases writeE S1.d n (pageBytes f.lsn f.es) <;> exact ⟨rfl, rfl⟩
      by_cases hl : S.l.doneN < f.lsn
      · obtain ⟨⟨L', d', o⟩, hq⟩ : ∃ q, lflush S.l S.d = q := ⟨_, rfl⟩
        cases o with
        | some e => rw [flushS_err hf hh hl hq]; exact ⟨rfl, rfl⟩
        | none => rw [flushS_log hf hh hl hq]; exact tail _
      · rw [flushS_tail hf hh hl]; exact tail _

/-- What pool.Evict comes to. -/
def PEvictPost (a : Nat → Addr) (M : Nat → Prop) (pp lp dp : Nat) (S : PSys) (hint : Int) (w : World) (e : Ending) (w' : World) : Prop :=
  e = .returned (errv a (evictS S hint).2) ∧ SysM (Gr M w w') w' pp lp dp (evictS S hint).1 ∧ Frm sTurn M w w'

set_option maxHeartbeats 8000000 in
set_option maxRecDepth 100000 in
theorem evict_pool (a : Nat → Addr) (M : Nat → Prop) (pp lp dp : Nat) (S : PSys) (hint : Int) (w : World) (hs : Sents w a) (hO : Out M a) (x : SysM M w pp lp dp S) (hlo : LooseLe S.d 40000) (hb1 : -9223372036854775808 ≤ hint) (hb2 : hint ≤ 9223372036854775807) :
    Calls Tryd.prog 32 #[.pointer (some ⟨pp, 0, none⟩), .int .i64 hint] w (PEvictPost a M pp lp dp S hint w) := by
  obtain ⟨t, h, fs, ht, hh⟩ := x.pool
  obtain ⟨c0, c1, c2, c3, c4⟩ := pool_cells ht
  have HX := Aside0.mk x
  have HH := Aside0.mk hh
  have HFL := Aside0.mk (fun n => flush_pool a M pp lp dp S n w hs hO x hlo)
  obtain ⟨A, cap, hv, _⟩ := ow_slice hh.frs.row
  obtain ⟨fl, hfl⟩ : ∃ fl, fs.length = fl := ⟨_, rfl⟩
  have HLEN := Aside0.mk (show S.here.length = fl by rw [← hh.eq, List.length_map, hfl])
  have hf8 : fl ≤ 8 := by rw [← hfl]; exact hh.frs.few
  have HFLN := Aside0.mk hfl
  rw [hfl] at hv
  have HPOST := Aside0.mk (show evictS S hint = (S, none) → ∀ w', Below w.heap.size w w' → PEvictPost a M pp lp dp S hint w (.returned .nilIface) w' from fun h0 w' hb => ⟨by rw [h0]; rfl, by rw [h0]; exact (x.below hb).mono fun k hk => .inl hk, Frm.of_below hb⟩)
  clear hs hO x ht hh hlo hfl c0 c1 c2 c3
  subst hv
  by_cases hz : fl = 0
  · have HR := Aside0.mk (show evictS S hint = (S, none) by
      unfold evictS
      rw [List.getElem?_eq_none (by have := HLEN.out; omega)])
    subst hz
    go_enter Tryd.func32, Tryd.ntmps32
    go_wp2_with fail
    go_ret
    exact HPOST.out HR.out _ (Below.refl _ _)
  · have hne : ((fl : Int) == 0) = false := by simp; omega
    obtain ⟨k, hk⟩ : ∃ k : Nat, (imax hint 0) % (fl : Int) = k := ⟨((imax hint 0) % (fl : Int)).toNat, by have := Int.emod_nonneg (imax hint 0) (show (fl : Int) ≠ 0 by omega); omega⟩
    have hi0 : 0 ≤ imax hint 0 := by rw [imax_eq]; omega
    have hi1 : imax hint 0 ≤ 9223372036854775807 := by rw [imax_eq]; omega
    have hkl : k < fl := by have := Int.emod_lt_of_pos (imax hint 0) (show (0 : Int) < fl by omega); omega
    have HK := Aside0.mk (show evictK S hint = k by
      unfold evictK
      rw [HLEN.out, ← imax_eq]
      have : ((((imax hint 0).toNat % fl : Nat)) : Int) = (imax hint 0) % (fl : Int) := by rw [Int.natCast_emod]; rw [Int.toNat_of_nonneg hi0]
      omega)
    obtain ⟨f, hf⟩ : ∃ f, fs[k]? = some f := ⟨_, List.getElem?_eq_getElem (by have := HFLN.out; omega)⟩
    obtain ⟨g, hA, hll, d0, d1, d2, A', c', hfv⟩ := HH.out.frs.at hf
    have HF := Aside0.mk hf
    obtain ⟨fn, lsn, fv, es⟩ := f
    simp only at d0 d1 d2 hfv
    have HHK := Aside0.mk (show S.here[k]? = some ⟨fn, lsn, es⟩ by rw [← HH.out.eq, List.getElem?_map, HF.out]; rfl)
    subst hA
    have hfl1 : 1 ≤ fl := by omega
    clear hf d1 d2 hfv hb1 hb2 hz hll
    go_enter Tryd.func32, Tryd.ntmps32
    go_wp2_with fail
    refine (HFL.out fn).mono ?_
    rintro e w1 ⟨rfl, x1, f1⟩
    have HX1 := Aside0.mk x1
    have HF1 := Aside0.mk f1
    clear x1 f1 d0 c4
    obtain ⟨⟨S1, o⟩, hq⟩ : ∃ q, flushS S fn = q := ⟨_, rfl⟩
    have HQ := Aside0.mk hq
    have HHR := Aside0.mk (flushS_here S fn)
    rw [hq] at HX1 HHR
    rw [hq]
    simp only at HX1 HHR
    clear hq
    cases o with
    | some e =>
      have HR := Aside0.mk (show evictS S hint = (S1, some e) by unfold evictS; rw [HK.out, HHK.out]; simp only [HQ.out])
      rw [show errv a (S1, some e).2 = .iface 163 (.pointer (some (a e))) from rfl]
      go_wp2_with fail
      go_ret
      exact ⟨by rw [HR.out]; rfl, by rw [HR.out]; exact HX1.out, HF1.out⟩
    | none =>
      have HR := Aside0.mk (show evictS S hint = ({ S1 with here := S1.here.eraseIdx k }, none) by unfold evictS; rw [HK.out, HHK.out]; simp only [HQ.out])
      rw [show errv a (S1, none).2 = .nilIface from rfl]
      obtain ⟨t1, h1, fs1, ht1, hh1⟩ := HX1.out.pool
      obtain ⟨_, _, _, _, g4⟩ := pool_cells ht1
      have hl1 : fs1.length = fl := by rw [← HLEN.out, ← HHR.out.1, ← hh1.eq, List.length_map]
      obtain ⟨gg, cap1, hv1, _, _⟩ := hh1.frs.row.form (by omega)
      rw [hl1] at hv1
      have HT1 := Aside0.mk ht1
      have HH1 := Aside0.mk hh1
      have HL1 := Aside0.mk hl1
      have HZ1 := Aside0.mk (And.intro (heap_lt ht1.box) ht1.box)
      clear ht1 hh1 hl1
      subst hv1
      go_wp2_with fail
      rw [show (k : Int) + 1 = ((k + 1 : Nat) : Int) from by omega]
      refine (del_frames 0 gg fl cap1 k (k + 1) (frCells fs1) _ (by have := HH1.out.frs.row; rw [HL1.out] at this; exact this) (frCells_one fs1 w1 HH1.out.frs.pages) hkl rfl).mono ?_
      rintro e w2 ⟨rfl, ho, hg, hsz⟩
      have HO2 := Aside0.mk ho
      have HG2 := Aside0.mk hg
      have hhn : (Value.slice (some ⟨gg, 0, none⟩) fl cap1).ownBlock ≠ some pp := fun e => by
        obtain ⟨_, c, hc⟩ := ow_block HH1.out.frs.row e
        rw [HT1.out.box] at hc
        injection hc with hc; injection hc with _ hc
        exact absurd hc (by decide)
      have hb2 : w2.heap[pp]? = w1.heap[pp]? := hg.block pp HZ1.out.1 (fun e => hhn e.symm)
      have g5 : w2.cell? ⟨pp, 4, none⟩ = some (.slice (some ⟨gg, 0, none⟩) fl cap1) := (World.cell?_of_block (w := w1) (a := ⟨pp, 4, none⟩) hb2).trans g4
      have g6 : w2.frozen? ⟨pp, 4, none⟩ = false := (World.frozen?_of_block (w := w1) (a := ⟨pp, 4, none⟩) hb2).trans (HT1.out.frozen 4)
      clear ho hg hb2 hhn g4 hsz
      go_wp2_with fail
      go_ret
      have hkl1 : k < fs1.length := by rw [HL1.out]; exact hkl
      have hlen : (fs1.eraseIdx k).length = fl - 1 := by rw [List.length_eraseIdx, if_pos hkl1, HL1.out]
      have hmap : (fs1.eraseIdx k).map forget = S1.here.eraseIdx k := by rw [← HH1.out.eq, map_erase]
      obtain ⟨r1, r2⟩ := sys_here (fs' := fs1.eraseIdx k) (h' := .slice (some ⟨gg, 0, none⟩) (fl - 1) cap1) HX1.out HT1.out HH1.out (by rw [hlen, frCells_erase _ _ hkl1]; exact HO2.out) (fun f hf => ⟨ow_move (HH1.out.frs.pages f ((List.eraseIdx_sublist _ _).mem hf)).1 fun j hj => by
          obtain ⟨_, c, hc⟩ := ow_block (HH1.out.frs.pages f ((List.eraseIdx_sublist _ _).mem hf)).1 hj
          refine HG2.out.block j (heap_lt hc) fun e => ?_
          obtain ⟨_, c2, hc2⟩ := ow_block HH1.out.frs.row e.symm
          rw [hc2] at hc
          injection hc with hc; injection hc with _ hc
          exact absurd hc (by decide), (HH1.out.frs.pages f ((List.eraseIdx_sublist _ _).mem hf)).2⟩) (by rw [hmap]; exact here_erase HX1.out.here k) HG2.out (.inl rfl)
      rw [hmap] at r1
      refine ⟨by rw [HR.out]; rfl, ?_, HF1.out.transG (frm_sys4 r2)⟩
      rw [HR.out]
      refine r1.mono fun j hj => ?_
      have hz1 := HF1.out.size
      have hz2 := HG2.out.size
      rcases hj with (hj | ⟨ha, hb⟩) | ⟨ha, hb⟩
      · exact .inl hj
      · exact .inr ⟨ha, by simp [World.setCell]; omega⟩
      · exact .inr ⟨by omega, by simp [World.setCell]; exact hb⟩

end Go.Proofs.YtlgpkbhajloajaaDoor.PoolE
/- The contract of pool.Get. No condition but that api's errors are what their text says. -/
namespace Go.Proofs.YtlgpkbhajloajaaDoor.PoolG
open Go.RowKit Go.Proofs.YtlgpkbhajloajaaDoorW.PrintWords Go.Proofs.YtlgpkbhajloajaaDoorW.PrintLast Go.Proofs.YtlgpkbhajloajaaDoorW.PrintMore
open Go.Proofs.YtlgpkbhajloajaaDoor.See Go.Proofs.YtlgpkbhajloajaaDoor.Mem Go.Proofs.YtlgpkbhajloajaaDoor.Clone Go.Proofs.YtlgpkbhajloajaaDoor.Cell Go.Proofs.YtlgpkbhajloajaaDoor.Page Go.Proofs.YtlgpkbhajloajaaDoor.PageB Go.Proofs.YtlgpkbhajloajaaDoor.PageR Go.Proofs.YtlgpkbhajloajaaDoor.Disk Go.Proofs.YtlgpkbhajloajaaDoor.DiskW Go.Proofs.YtlgpkbhajloajaaDoor.DiskS Go.Proofs.YtlgpkbhajloajaaDoor.RecD Go.Proofs.YtlgpkbhajloajaaDoor.Pool1 Go.Proofs.YtlgpkbhajloajaaDoor.Pool3 Go.Proofs.YtlgpkbhajloajaaDoor.Wal Go.Proofs.YtlgpkbhajloajaaDoor.WalF Go.Proofs.YtlgpkbhajloajaaDoor.Dirty Go.Proofs.YtlgpkbhajloajaaDoor.Dirty2 Go.Proofs.YtlgpkbhajloajaaDoor.SysD Go.Proofs.YtlgpkbhajloajaaDoor.SysM Go.Proofs.YtlgpkbhajloajaaDoor.PoolF Go.Proofs.YtlgpkbhajloajaaDoor.PoolE Go.Proofs.YtlgpkbhajloajaaDoor.Del
attribute [local go_sem] max2_imax min2_imin max_two min_two
set_option linter.unusedVariables false
set_option linter.unusedSimpArgs false

/-- An error's value. -/
def FltV (a : Nat → Addr) (w : World) : Flt → Value → Prop
  | .fine, v => v = .nilIface
  | .bare k, v => v = .iface 163 (.pointer (some (a k)))
  | .at pos k, v => ∃ b, v = .iface 80 (.pointer (some ⟨b, 0, none⟩)) ∧ w.heap[b]? = some (.cells #[.int .i64 pos, .iface 163 (.pointer (some (a k)))] 82 (0, 0))

/-- What pool.Get does with a page that is not here. -/
def getTail (S : PSys) (n : Int) : PSys × (Int × List (Int × Int)) × Flt :=
  match readE S.d n with
  | some e => (S, (0, []), .bare e)
  | none =>
    match readPage (readV S.d n) with
    | none => (S, (0, []), .at n 6)
    | some g => ({ S with here := S.here ++ [⟨n, g.1, g.2⟩] }, g, .fine)

theorem getS_found {S : PSys} {n hint : Int} {f : Fp} (h : findP S.here n = some f) : getS S n hint = (S, (f.lsn, f.es), .fine) := by unfold getS; rw [h]
theorem getS_low {S : PSys} {n hint : Int} (h : findP S.here n = none) (hn : n < 1) : getS S n hint = (S, (0, []), .bare 1) := by unfold getS; rw [h]; simp only [hn, if_true]
theorem getS_room {S : PSys} {n hint : Int} (h : findP S.here n = none) (hn : ¬ n < 1) (hr : ¬ S.frames ≤ S.here.length) : getS S n hint = getTail S n := by
  unfold getS getTail
  rw [h]
  simp only [hn, hr, if_false]
  cases readE S.d n with
  | some e => rfl
  | none => cases readPage (readV S.d n) <;> rfl
theorem getS_evict {S S' : PSys} {n hint : Int} (h : findP S.here n = none) (hn : ¬ n < 1) (hr : S.frames ≤ S.here.length) (he : evictS S hint = (S', none)) : getS S n hint = getTail S' n := by
  unfold getS getTail
  rw [h]
  simp only [hn, hr, if_true, if_false, he]
  cases readE S'.d n with
  | some e => rfl
  | none => cases readPage (readV S'.d n) <;> rfl
/-- What is here behind an eviction. -/
theorem evictS_here {S : PSys} {hint : Int} (hh : HereOk S.here) (hr : S.frames ≤ S.here.length) (hf : 1 ≤ S.frames) : ((evictS S hint).2 = none → (evictS S hint).1.here.length ≤ 7) ∧ ((evictS S hint).2 = none → ∀ n, findP S.here n = none → findP (evictS S hint).1.here n = none) := by
  have h8 := hh.few
  have hk : evictK S hint < S.here.length := by unfold evictK; exact Nat.mod_lt _ (by omega)
  unfold evictS
  rw [List.getElem?_eq_getElem hk]
  simp only
  have h1 := (flushS_here S (S.here[evictK S hint]).n).1
  obtain ⟨⟨S1, o⟩, hq⟩ : ∃ q, flushS S (S.here[evictK S hint]).n = q := ⟨_, rfl⟩
  rw [hq] at h1 ⊢
  cases o with
  | some e => exact ⟨fun h => (Option.some_ne_none _ h).elim, fun h => (Option.some_ne_none _ h).elim⟩
  | none =>
    simp only at h1 ⊢
    refine ⟨fun _ => ?_, fun _ n hn => ?_⟩
    · rw [List.length_eraseIdx, h1]; split <;> omega
    · unfold findP at hn ⊢
      rw [List.find?_eq_none] at hn ⊢
      intro f hf
      exact hn f (by rw [← h1]; exact (List.eraseIdx_sublist _ _).mem hf)

theorem getS_err {S S' : PSys} {n hint : Int} {e : Nat} (h : findP S.here n = none) (hn : ¬ n < 1) (hr : S.frames ≤ S.here.length) (he : evictS S hint = (S', some e)) : getS S n hint = (S', (0, []), .bare e) := by
  unfold getS
  rw [h]
  simp only [hn, hr, if_true, if_false, he]

/-- What pool.Get comes to. -/
def PGetPost (a : Nat → Addr) (M : Nat → Prop) (pp lp dp : Nat) (S : PSys) (n hint : Int) (w : World) (e : Ending) (w' : World) : Prop :=
  ∃ sl ev, e = .returned (.tuple #[.agg #[.int .i64 (getS S n hint).2.1.1, sl], ev]) ∧ P2 w' 109 sl (getS S n hint).2.1.2 ∧ FltV a w' (getS S n hint).2.2 ev ∧ SysM (Gr M w w') w' pp lp dp (getS S n hint).1 ∧ Frm sTurn M w w'

/-- Two cells of a page's block written: all else stays. -/
structure Two (b : Nat) (w w' : World) : Prop where
  os : w'.os = w.os
  tape : w'.tape = w.tape
  output : w'.output = w.output
  size : w'.heap.size = w.heap.size
  block : ∀ k, k ≠ b → w'.heap[k]? = w.heap[k]?

theorem Two.refl (b : Nat) (w : World) : Two b w w := ⟨rfl, rfl, rfl, rfl, fun _ _ => rfl⟩
theorem Two.drew {b : Nat} {w w' : World} (h : Two b w w') : Two b w w'.drew := ⟨h.os, h.tape, h.output, h.size, h.block⟩
theorem Two.set {b : Nat} {w w' : World} (h : Two b w w') (i : Nat) (v : Value) : Two b w (w'.setCell ⟨b, i, none⟩ v) :=
  ⟨h.os, h.tape, h.output, by rw [← h.size]; simp [World.setCell], fun k hk => by rw [Below.heap_setCell _ _ _ _ (by exact hk)]; exact h.block k hk⟩
/-- What was in a system stays, where a block of the call's own is written. -/
theorem Two.sys {M : Nat → Prop} {b : Nat} {w0 w w' : World} {pp lp dp : Nat} {S : PSys} {c : Array Value} {f : Nat × Nat} (h : Two b w w') (x : SysM (Gr M w0 w) w pp lp dp S) (hb : w.heap[b]? = some (.cells c 32 f)) : SysM (Gr M w0 w') w' pp lp dp S := by
  have hf : Frm [32] (fun k => k = b) w w' := ⟨h.os, h.tape, h.output, Nat.le_of_eq h.size.symm, fun k hk hn => h.block k (fun e => by subst e; exact hn rfl (by rw [tag_of hb]; decide))⟩
  have hm : ∀ k, Gr M w0 w k → Gr M w0 w' k := fun k hk => by
    rcases hk with hk | ⟨h1, h2⟩
    · exact .inl hk
    · exact .inr ⟨h1, by rw [h.size]; exact h2⟩
  obtain ⟨x1, ⟨v, x2⟩, ⟨t, hv, fs, x3, x4⟩, x5, x6, x7, x8⟩ := x
  exact ⟨(x1.frm hf (by decide)).mono hm, ⟨v, (x2.frm hf (by decide)).mono hm⟩, ⟨t, hv, fs, (TabM.frm x3 hf (by decide) (by decide)).mono hm, (x4.frm hf (by decide) (by decide)).mono hm⟩, x5, x6, x7, x8⟩
theorem Two.frm {T : List Nat} {M : Nat → Prop} {b : Nat} {w0 w w' : World} (h : Two b w w') (hf : Frm T M w0 w) (hb : w0.heap.size ≤ b) : Frm T M w0 w' :=
  ⟨h.os.trans hf.os, h.tape.trans hf.tape, h.output.trans hf.output, by rw [h.size]; exact hf.size, fun k hk hn => (h.block k (by omega)).trans (hf.block k hk hn)⟩
/-- What is read of a disk is a sector's. -/
theorem readV_ok {M : Nat → Prop} {w : World} {p : Nat} {d : Dsk} {i : Int} (h : DskM M w p d) (he : readE d i = none) : SecB (readV d i) := by
  obtain ⟨g, cap, rs, h⟩ := h
  cases ho : d.off with
  | true => rw [(readE_off ho).1] at he; cases he
  | false =>
    cases hi : inD d i with
    | false => rw [(readE_out ho hi).1] at he; cases he
    | true =>
      obtain ⟨h1, h2⟩ := inD_true hi
      have hl : i.toNat < d.l.length := by omega
      rw [(readE_in ho hi (List.getElem?_eq_getElem hl)).2]
      exact Sec.last_ok (h.ok _ (List.getElem_mem hl))
theorem here_app {here : List Fp} {n lsn : Int} {es : List (Int × Int)} (h : HereOk here) (h7 : here.length ≤ 7) (hn : findP here n = none) (hk : pageOk lsn es = true) : HereOk (here ++ [⟨n, lsn, es⟩]) := by
  refine ⟨by simp; omega, ?_, ?_⟩
  · rw [List.pairwise_append]
    refine ⟨h.once, List.pairwise_singleton _ _, fun a ha b hb e => ?_⟩
    rw [List.mem_singleton] at hb
    subst hb
    unfold findP at hn
    rw [List.find?_eq_none] at hn
    exact hn a ha (decide_eq_true e)
  · intro f hf
    rcases List.mem_append.1 hf with hf | hf
    · exact h.ok f hf
    · rw [List.mem_singleton] at hf
      subst hf
      exact hk
theorem read_pageOk {bs : List Int} {lsn : Int} {es : List (Int × Int)} (h : readPage bs = some (lsn, es)) : pageOk lsn es = true := by
  unfold readPage at h
  split at h
  · rename_i hc
    injection h with h
    injection h with h1 h2
    subst h1 h2
    rw [Bool.and_eq_true] at hc
    exact hc.1
  · cases h
theorem heap_new {W : World} {o : Obj} {b : Nat} (hb : W.heap.size = b) : (W.alloc o).drew.heap[b]? = some o := by subst hb; exact heap_alloc_new W o
theorem frs_pool {M : Nat → Prop} {w : World} {h : Value} {fs : List Fr} {here : List Fp} {pp : Nat} {c : Array Value} {v : Value} {t : List (Int × Int)} (hh : FrsP M w h fs here) (ht : TabM M w pp c v t) : h.ownBlock ≠ some pp := fun e => by
  obtain ⟨_, c, hc⟩ := ow_block hh.frs.row e
  rw [ht.box] at hc
  injection hc with hc; injection hc with _ hc
  exact absurd hc (by decide)
/-- A page's block: its cells. -/
theorem page_cells {w : World} {b : Nat} {u v : Value} (h : w.heap[b]? = some (.cells #[u, v] 32 (0, 0))) : w.cell? ⟨b, 0, none⟩ = some u ∧ w.cell? ⟨b, 1, none⟩ = some v ∧ w.frozen? ⟨b, 0, none⟩ = false ∧ w.frozen? ⟨b, 1, none⟩ = false := by
  refine ⟨?_, ?_, ?_, ?_⟩ <;> simp [World.cell?, World.frozen?, h]
/-- A new block beside it. -/
theorem sys_alloc {M : Nat → Prop} {w0 w : World} {pp lp dp : Nat} {S : PSys} (x : SysM (Gr M w0 w) w pp lp dp S) (o : Obj) : SysM (Gr M w0 (w.alloc o)) (w.alloc o) pp lp dp S :=
  (x.below (below_alloc (Below.refl _ _) _)).mono fun k hk => by
    rcases hk with hk | ⟨h1, h2⟩
    · exact .inl hk
    · exact .inr ⟨h1, by simp; omega⟩

theorem Two.p2 {b : Nat} {w w' : World} {v : Value} {es : List (Int × Int)} {c : Array Value} {f : Nat × Nat} (h : Two b w w') (hp : P2 w 109 v es) (hb : w.heap[b]? = some (.cells c 32 f)) : P2 w' 109 v es :=
  ⟨ow_move hp.1 fun k hk => h.block k fun e => by
    subst e
    obtain ⟨_, c2, hc⟩ := ow_block hp.1 hk
    rw [hc] at hb
    injection hb with hb; injection hb with _ hb
    exact absurd hb (by decide), hp.2⟩

theorem info_frame : (Tryd.prog.info? 74).map (fun i => (i.zero, i.size, i.bytes)) = some (some (.agg #[.int .i64 0, .int .i64 0, .slice none 0 0]), 3, 40) := by kernel_rfl
theorem len40 {n : Nat} (h : n ≤ 100000) : (n + 1) * 40 ≤ 140737488355328 := by omega
theorem news_fr (W : World) (b : Nat) (hb : W.heap.size = b) (n l : Int) (v : Value) (e : Nat) : ∀ j x, [Value.int .i64 n, Value.int .i64 l, v][j]? = some x → (W.alloc (.cells #[.int .i64 n, .int .i64 l, v] e)).cell? ((⟨b, 0, none⟩ : Addr).add j) = some x := by
  subst hb
  exact World.news_of_block (cs := #[.int .i64 n, .int .i64 l, v]) (heap_alloc_new W _)
theorem one_fr (n l : Int) (A : Option Addr) (m c : Nat) : ∀ u ∈ [Value.int .i64 n, Value.int .i64 l, Value.slice A m c], u.oneCell' = true := by
  intro u hu
  simp at hu
  rcases hu with rfl | rfl | rfl <;> rfl

set_option maxHeartbeats 8000000 in
set_option maxRecDepth 100000 in
theorem get_pool (a : Nat → Addr) (M : Nat → Prop) (pp lp dp : Nat) (S : PSys) (n hint : Int) (w : World) (hs : Sents w a) (hO : Out M a) (x : SysM M w pp lp dp S) (hlo : LooseLe S.d 40000) (hb1 : -9223372036854775808 ≤ hint) (hb2 : hint ≤ 9223372036854775807) :
    Calls Tryd.prog 10 #[.pointer (some ⟨pp, 0, none⟩), .int .i64 n, .int .i64 hint] w (PGetPost a M pp lp dp S n hint w) := by
  obtain ⟨t, h, fs, ht, hh⟩ := x.pool
  have hg1 : w.cell? ⟨0, 0, none⟩ = some (.iface 163 (.pointer (some (a 1)))) := hs.cell 1 (by decide)
  have hgl1 : 0 < w.heap.size := World.block_lt_of_cell? _ _ hg1
  have HS := Aside0.mk hs
  have HO := Aside0.mk hO
  have HX := Aside0.mk x
  have HT := Aside0.mk ht
  have HH := Aside0.mk hh
  have HLO := Aside0.mk hlo
  have HIF := Aside0.mk (idx_find n fs 0)
  obtain ⟨A, cap, hv, _⟩ := ow_slice hh.frs.row
  obtain ⟨fl, hfl⟩ : ∃ fl, fs.length = fl := ⟨_, rfl⟩
  have hf8 : fl ≤ 8 := by rw [← hfl]; exact hh.frs.few
  have HFLN := Aside0.mk hfl
  have HLEN := Aside0.mk (show S.here.length = fl by rw [← hh.eq, List.length_map, hfl])
  rw [hfl] at hv
  have hpl := heap_lt ht.box
  have HAT := Aside0.mk (fun W hf hc => at_pool pp h fs n W hf hc)
  clear hs hO x ht hh hlo hfl hg1
  -- a page of zeros that is returned
  have HBAD := Aside0.mk (show ∀ (W W' : World) (S' : PSys) (o : Flt) (ev : Value), getS S n hint = (S', (0, []), o) → SysM (Gr M w W) W pp lp dp S' → Frm sTurn M w W → (∃ c f, W.heap[w.heap.size]? = some (.cells c 32 f)) → Two w.heap.size W W' → FltV a W' o ev → PGetPost a M pp lp dp S n hint w (.returned (.tuple #[.agg #[.int .i64 0, .slice none 0 0], ev])) W' from fun W W' S' o ev h1 h2 h3 ⟨c, f, h4⟩ h5 h6 =>
    ⟨.slice none 0 0, ev, by rw [h1], by rw [h1]; exact P2.nil _ _, by rw [h1]; exact h6, by rw [h1]; exact h5.sys h2 h4, h5.frm h3 (Nat.le_refl _)⟩)
  have HBAD2 := Aside0.mk (show ∀ (W W' W'' : World) (S' : PSys) (o : Flt) (ev : Value), getS S n hint = (S', (0, []), o) → SysM (Gr M w W) W pp lp dp S' → Frm sTurn M w W → (∃ c f, W.heap[w.heap.size]? = some (.cells c 32 f)) → Two w.heap.size W W' → Below W'.heap.size W' W'' → FltV a W'' o ev → PGetPost a M pp lp dp S n hint w (.returned (.tuple #[.agg #[.int .i64 0, .slice none 0 0], ev])) W'' from fun W W' W'' S' o ev h1 h2 h3 ⟨c, f, h4⟩ h5 h6 h7 =>
    ⟨.slice none 0 0, ev, by rw [h1], by rw [h1]; exact P2.nil _ _, by rw [h1]; exact h7, by
      rw [h1]
      exact ((h5.sys h2 h4).below h6).mono fun k hk => by
        rcases hk with hk | ⟨ha, hb⟩
        · exact .inl hk
        · exact .inr ⟨ha, Nat.lt_of_lt_of_le hb h6.size⟩, (h5.frm h3 (Nat.le_refl _)).step h6⟩)
  subst hv
  rcases HIF.out with ⟨hn, hi⟩ | ⟨i, f, hfd, hfi, hfn, hi⟩
  · have HNF := Aside0.mk (show findP S.here n = none by rw [← HH.out.eq]; exact hn)
    have hii : idxOf fs n = -1 := hi
    have HII := Aside0.mk hii
    clear hn hi hii HIF
    go_enter Tryd.func10, Tryd.ntmps10
    go_wp2_with fail
    refine (HAT.out _ (HH.out.frs.below (below_alloc (Below.refl _ _) _)) (by rw [World.cell?_alloc_lt _ _ _ (by exact hpl)]; exact (pool_cells HT.out).2.2.2.2)).mono ?_
    rintro e w1 ⟨rfl, hb⟩
    have HB6 := Aside0.mk (show w1.heap[w.heap.size]? = some (.cells #[.int .i64 0, .slice none 0 0] 32 (0, 0)) from (hb.block w.heap.size (by simp)).trans (heap_alloc_new w _))
    have HB := Aside0.mk (below_step (below_alloc (Below.refl w.heap.size w) _) hb)
    rw [HII.out]
    clear hb
    have HS1 := Aside0.mk (HS.out.below HB.out)
    have g1 : w1.cell? ⟨0, 0, none⟩ = some (.iface 163 (.pointer (some (a 1)))) := HS1.out.cell 1 (by decide)
    obtain ⟨_, g5, _, g3, g4⟩ := pool_cells (HT.out.below HB.out)
    have hz1 := heap_lt HB6.out
    by_cases hn1 : n < 1
    · have HR := Aside0.mk (getS_low (hint := hint) HNF.out hn1)
      have q1 : decide (n < 1) = true := decide_eq_true hn1
      clear hn1 g3 g4 g5
      obtain ⟨q4, q5, q2, q3⟩ := page_cells HB6.out
      go_wp2_with fail
      go_region
      all_goals
        go_wp2_with fail
        refine bodyPost_ret (v := .tuple #[.agg #[.int .i64 0, .slice none 0 0], .iface 163 (.pointer (some (a 1)))]) ?_ ?_ ?_
        case refine_3 => exact HBAD.out w1 _ S (.bare 1) _ HR.out ((HX.out.below HB.out).mono fun k hk => .inl hk) (Frm.of_below HB.out) ⟨_, _, HB6.out⟩ ((((Two.refl _ _).set 0 _).set 1 _).drew) rfl
        case refine_2 => rfl
        simp [results, Tryd.results10, go_sem, q2, q3, q4, q5]
    · have q1 : decide (n < 1) = false := decide_eq_false hn1
      have HN1 := Aside0.mk hn1
      clear hn1
      go_wp2_with fail
      go_quiet (fail)
      go_upto_if 40 with fail
      have HBq := Aside0.mk (show Below w.heap.size w (w1.drewN nq) by first | exact pw_below_drewN HB.out | (apply pw_below_drewN; exact HB.out))
      have HB6q := Aside0.mk (show (w1.drewN nq).heap[w.heap.size]? = some (.cells #[.int .i64 0, .slice none 0 0] 32 (0, 0)) from HB6.out)
      have HS1q := Aside0.mk (HS.out.below HBq.out)
      obtain ⟨wq, hwq⟩ : ∃ wq, w1.drewN nq = wq := ⟨_, rfl⟩
      rw [hwq] at HBq HB6q HS1q ⊢
      clear g1 g3 g4 g5 hz1 hwq HB HB6 HS1
      have HB := HBq
      have HB6 := HB6q
      have HS1 := HS1q
      clear HBq HB6q HS1q
      have HX1 := Aside0.mk (HX.out.below HB.out)
      go_cut [] (fun wx => ∃ S1 : PSys, Aside0 (SysM (Gr M w wx) wx pp lp dp S1) ∧ Aside0 (Frm sTurn M w wx) ∧ Aside0 (getS S n hint = getTail S1 n) ∧ Aside0 (wx.heap[w.heap.size]? = some (.cells #[.int .i64 0, .slice none 0 0] 32 (0, 0))) ∧ Aside0 (findP S1.here n = none) ∧ Aside0 (S1.here.length ≤ 7))
      case first =>
        have HFR := Aside0.mk HX.out.frames
        by_cases hfu : S.frames ≤ (fl : Int)
        · have hq : decide (S.frames ≤ (fl : Int)) = true := decide_eq_true hfu
          have HFU := Aside0.mk (show S.frames ≤ S.here.length by rw [HLEN.out]; exact hfu)
          clear hfu
          rw [hq]
          go_wp2_with fail
          refine (evict_pool a M pp lp dp S hint _ HS1.out HO.out HX1.out HLO.out (by assumption) (by assumption)).mono ?_
          rintro e w2 ⟨rfl, x2, f2⟩
          have hz2 := HB.out.size
          have hz3 := f2.size
          have HX2 := Aside0.mk (show SysM (Gr M w w2) w2 pp lp dp (evictS S hint).1 from x2.mono fun k hk => by
            rcases hk with hk | ⟨h1, h2⟩
            · exact .inl hk
            · exact .inr ⟨by omega, h2⟩)
          have HF2 := Aside0.mk (show Frm sTurn M w w2 from (Frm.of_below HB.out).trans f2)
          have HB62 := Aside0.mk (show w2.heap[w.heap.size]? = some (.cells #[.int .i64 0, .slice none 0 0] 32 (0, 0)) from f2.at HB6.out (.inl (by decide)))
          have HW2 := Aside0.mk (heap_lt HB62.out)
          clear x2 f2 hz2 hz3
          have HEV := Aside0.mk (evictS_here (hint := hint) HX.out.here HFU.out HFR.out.1)
          obtain ⟨⟨S1, o⟩, hev⟩ : ∃ q, evictS S hint = q := ⟨_, rfl⟩
          have HE := Aside0.mk hev
          rw [hev] at HX2 HEV
          rw [hev]
          simp only at HX2 HEV
          clear hev
          cases o with
          | some e =>
            have HR := Aside0.mk (getS_err HNF.out (by have := HN1.out; omega) HFU.out HE.out)
            obtain ⟨q4, q5, q2, q3⟩ := page_cells HB62.out
            have hz2 := HW2.out
            rw [show errv a (S1, some e).2 = .iface 163 (.pointer (some (a e))) from rfl]
            go_wp2_with fail
            refine bodyPost_ret (v := .tuple #[.agg #[.int .i64 0, .slice none 0 0], .iface 163 (.pointer (some (a e)))]) ?_ ?_ ?_
            case refine_3 => exact HBAD.out w2 _ S1 (.bare e) _ HR.out HX2.out HF2.out ⟨_, _, HB62.out⟩ (((Two.refl _ _).set 0 _).set 1 _) rfl
            case refine_2 => rfl
            simp [results, Tryd.results10, go_sem, q2, q3, q4, q5]
          | none =>
            rw [show errv a (S1, none).2 = .nilIface from rfl]
            go_wp2_with fail
            go_meet
            exact ⟨S1, HX2, HF2, ⟨getS_evict HNF.out (by have := HN1.out; omega) HFU.out HE.out⟩, HB62, ⟨by have h := HEV.out.2; simp at h; exact h n HNF.out⟩, ⟨by have h := HEV.out.1; simpa using h⟩⟩
        · have hq : decide (S.frames ≤ (fl : Int)) = false := decide_eq_false hfu
          have HFU := Aside0.mk (show ¬ S.frames ≤ S.here.length by rw [HLEN.out]; exact hfu)
          clear hfu
          rw [hq]
          go_wp2_with fail
          go_meet
          exact ⟨S, ⟨HX1.out.mono fun k hk => .inl hk⟩, ⟨Frm.of_below HB.out⟩, ⟨getS_room HNF.out (by have := HN1.out; omega) (by have := HFU.out; omega)⟩, HB6, HNF, ⟨by have := HFU.out; have := HFR.out.2; omega⟩⟩
      case rest =>
        obtain ⟨S1, HX2, HF2, HG2, HB62, HNF1, HL7⟩ := hcut
        have HS2 := Aside0.mk (sents_frm HS.out HF2.out HO.out)
        obtain ⟨t1, h1, fs1, ht1, hh1⟩ := HX2.out.pool
        obtain ⟨_, g5, _, g3, g4⟩ := pool_cells ht1
        have HT1 := Aside0.mk ht1
        have HH1 := Aside0.mk hh1
        have hpl1 := heap_lt ht1.box
        clear ht1 hh1 g3 g4
        go_wp2_with fail
        refine (read_disk a _ dp S1.d n wc HS2.out HX2.out.dsk).mono ?_
        rintro e w3 ⟨v3, rfl, hb3, hB3⟩
        have HB3 := Aside0.mk hB3
        have HBS3 := Aside0.mk hb3
        have HB63 := Aside0.mk (show w3.heap[w.heap.size]? = some (.cells #[.int .i64 0, .slice none 0 0] 32 (0, 0)) from (hB3.block _ (heap_lt HB62.out)).trans HB62.out)
        have HX3 := Aside0.mk (show SysM (Gr M w w3) w3 pp lp dp S1 from (HX2.out.below hB3).mono fun k hk => by
            rcases hk with hk | ⟨h1, h2⟩
            · exact .inl hk
            · exact .inr ⟨h1, by have := hB3.size; omega⟩)
        have HF3 := Aside0.mk (show Frm sTurn M w w3 from HF2.out.step hB3)
        have HS3 := Aside0.mk (HS2.out.below hB3)
        have hz3 : w.heap.size < w3.heap.size := heap_lt HB63.out
        obtain ⟨A3, c3, hv3, _⟩ := Rd.form hb3
        clear hB3 hb3 g5
        cases hre : readE S1.d n with
        | some e =>
          have HR := Aside0.mk (show getS S n hint = (S1, (0, []), .bare e) by rw [HG2.out]; unfold getTail; simp only [hre])
          obtain ⟨q4, q5, q2, q3⟩ := page_cells HB63.out
          rw [show errv a (some e) = .iface 163 (.pointer (some (a e))) from rfl]
          subst hv3
          clear hre
          go_wp2_with fail
          refine bodyPost_ret (v := .tuple #[.agg #[.int .i64 0, .slice none 0 0], .iface 163 (.pointer (some (a e)))]) ?_ ?_ ?_
          case refine_3 => exact HBAD.out w3 _ S1 (.bare e) _ HR.out HX3.out HF3.out ⟨_, _, HB63.out⟩ (((Two.refl _ _).set 0 _).set 1 _) rfl
          case refine_2 => rfl
          simp [results, Tryd.results10, go_sem, q2, q3, q4, q5]
        | none =>
          have HRE := Aside0.mk hre
          have HSB := Aside0.mk (show SecB (readV S1.d n) from readV_ok HX3.out.dsk hre)
          rw [show errv a none = .nilIface from rfl]
          clear hre
          subst hv3
          go_wp2_with fail
          refine (read_calls a _ (readV S1.d n) _ HS3.out HBS3.out HSB.out.1 HSB.out.2).mono ?_
          rintro e w4 ⟨sl, rfl, hp4, hB4⟩
          have HS4 := Aside0.mk (HS3.out.below hB4)
          have HX4 := Aside0.mk (show SysM (Gr M w w4) w4 pp lp dp S1 from (HX3.out.below hB4).mono fun k hk => by
            rcases hk with hk | ⟨h1, h2⟩
            · exact .inl hk
            · exact .inr ⟨h1, by have := hB4.size; omega⟩)
          have HF4 := Aside0.mk (show Frm sTurn M w w4 from HF3.out.step hB4)
          have HB64 := Aside0.mk (show w4.heap[w.heap.size]? = some (.cells #[.int .i64 0, .slice none 0 0] 32 (0, 0)) from (hB4.block _ (heap_lt HB63.out)).trans HB63.out)
          have HP4 := Aside0.mk hp4
          obtain ⟨A4, c4, rfl, _⟩ := ow_slice hp4.1
          have hz4 : w.heap.size < w4.heap.size := heap_lt HB64.out
          clear hp4 hB4 hz3
          obtain ⟨go, hgo⟩ : ∃ go, readPage (readV S1.d n) = go := ⟨_, rfl⟩
          rw [hgo] at HP4 ⊢
          have HGO := Aside0.mk hgo
          clear hgo
          obtain ⟨q4, q5, q2, q3⟩ := page_cells HB64.out
          cases go with
          | none =>
            have g1 : w4.cell? ⟨1, 0, none⟩ = some (.iface 163 (.pointer (some (a 6)))) := HS4.out.cell 6 (by decide)
            have hgl6 : 1 < w.heap.size := World.block_lt_of_cell? _ _ (HS.out.cell 6 (by decide))
            have hgl6b : 1 < w4.heap.size := by omega
            have HR := Aside0.mk (show getS S n hint = (S1, (0, []), .at n 6) by rw [HG2.out]; unfold getTail; simp only [HRE.out, HGO.out])
            rw [show errv a (if (none : Option (Int × List (Int × Int))).isSome then none else some 6) = .iface 163 (.pointer (some (a 6))) from rfl]
            rw [show ((none : Option (Int × List (Int × Int))).getD (0, [])).1 = 0 from rfl, show ((none : Option (Int × List (Int × Int))).getD (0, [])).2.length = 0 from rfl]
            go_wp2_with fail
            go_region
            all_goals
              go_wp2_with fail
              refine bodyPost_ret (v := .tuple #[.agg #[.int .i64 0, .slice none 0 0], .iface 80 (.pointer (some ⟨w4.heap.size + 1, 0, none⟩))]) ?_ ?_ ?_
              case refine_3 => exact HBAD2.out w4 _ _ S1 (.at n 6) _ HR.out HX4.out HF4.out ⟨_, _, HB64.out⟩ (((Two.refl _ _).set 0 _).set 1 _) (by repeat (first | exact Below.refl _ _ | apply below_drew1 | apply below_alloc)) ⟨w4.heap.size + 1, rfl, heap_new (by simp)⟩
              case refine_2 => rfl
              have k1 : w.heap.size < w4.heap.size + 1 := by omega
              simp [results, Tryd.results10, go_sem, q2, q3, q4, q5, World.cell?_alloc_lt, hz4, k1]
          | some g =>
            obtain ⟨lsn, es⟩ := g
            have HR := Aside0.mk (show getS S n hint = ({ S1 with here := S1.here ++ [⟨n, lsn, es⟩] }, (lsn, es), .fine) by rw [HG2.out]; unfold getTail; simp only [HRE.out, HGO.out])
            have HHO := Aside0.mk (here_app HX4.out.here HL7.out HNF1.out (read_pageOk HGO.out))
            rw [show errv a (if (some (lsn, es)).isSome then none else some 6) = .nilIface from rfl]
            rw [show ((some (lsn, es)).getD (0, [])).1 = lsn from rfl, show ((some (lsn, es)).getD (0, [])).2.length = es.length from rfl]
            have HPE := Aside0.mk (show P2 w4 109 (.slice A4 es.length c4) es from HP4.out)
            have HX5 := Aside0.mk (sys_alloc HX4.out (.cells #[.int .i64 lsn, .slice A4 es.length c4] 32))
            obtain ⟨el, hel⟩ : ∃ el, es.length = el := ⟨_, rfl⟩
            have HEL := Aside0.mk hel
            rw [hel] at HPE HX5 ⊢
            clear hel HP4
            obtain ⟨t5, h5, fs5, ht5, hh5⟩ := HX5.out.pool
            obtain ⟨_, _, _, _, g4⟩ := pool_cells ht5
            obtain ⟨A5, c5, hv5, _⟩ := ow_slice hh5.frs.row
            obtain ⟨n5, hn5⟩ : ∃ n5, fs5.length = n5 := ⟨_, rfl⟩
            have h58 : n5 ≤ 7 := by rw [← hn5]; have h := HL7.out; rw [← hh5.eq, List.length_map] at h; exact h
            have HN5 := Aside0.mk hn5
            rw [hn5] at hv5
            have HT5 := Aside0.mk ht5
            have HH5 := Aside0.mk hh5
            have hf4 : (w4.alloc (.cells #[.int .i64 lsn, .slice A4 el c4] 32)).frozen? ⟨pp, 4, none⟩ = false := ht5.frozen 4
            obtain ⟨i0, hi0, hzz⟩ := Option.map_eq_some_iff.1 info_frame
            simp only [Prod.mk.injEq] at hzz
            obtain ⟨hz0, hz1, hz2⟩ := hzz
            clear ht5 hh5 hn5 q2 q3 q4 q5
            subst hv5
            have hn55 : n5 ≤ 100000 := by omega
            have hz5 : w4.heap.size < w4.heap.size + 1 := by omega
            have hpl4 : pp < w4.heap.size := by omega
            go_wp2_with fail
            go_region_law (refine step_append_lies _ (by rfl) _ _ 77 (by rfl) 0 74 i0 (.agg #[.int .i64 0, .int .i64 0, .slice none 0 0]) 3 40 Tryd.underlying77 hi0 hz0 hz1 hz2 rfl (by decide) _ n5 (frCells fs5) (by rfl) (by have h := HH5.out.frs.row; rw [HN5.out] at h; exact ow_below h (by repeat (first | exact Below.refl _ _ | apply below_drew1 | apply below_alloc))) ⟨w4.heap.size + 1, 0, none⟩ 1 1 [.int .i64 n, .int .i64 lsn, .slice A4 el c4] (by rfl) rfl (by exact news_fr _ _ (by simp) _ _ _ _) (by exact one_fr _ _ _ _ _) (by decide) (by exact len_ok hn55) (by exact len40 hn55) (by exact Nat.zero_le _) (w4.heap.size + 2) (by simp) ?_; intro g2 cap2 w6 hown hgr hor hlt3; have hkg : w6.heap[pp]? = (w4.alloc (.cells #[.int .i64 lsn, .slice A4 el c4] 32)).heap[pp]? := grown_blk hgr (by exact (show Below (w4.alloc (.cells #[.int .i64 lsn, .slice A4 el c4] 32)).heap.size (w4.alloc (.cells #[.int .i64 lsn, .slice A4 el c4] 32)) _ by repeat (first | exact Below.refl _ _ | apply below_drew1 | apply below_alloc)).block _ (by simp; omega)) (by simp; omega) (fun k hk e => frs_pool HH5.out HT5.out (hk.trans (congrArg some e))); have hs1 : w6.cell? ⟨pp, 4, none⟩ = some (.slice A5 n5 c5) := (World.cell?_of_block (w := w4.alloc (.cells #[.int .i64 lsn, .slice A4 el c4] 32)) (a := ⟨pp, 4, none⟩) hkg).trans g4; have hs2 : w6.frozen? ⟨pp, 4, none⟩ = false := (World.frozen?_of_block (w := w4.alloc (.cells #[.int .i64 lsn, .slice A4 el c4] 32)) (a := ⟨pp, 4, none⟩) hkg).trans hf4)
            all_goals
              have HOWN := Aside0.mk hown
              have HGR := Aside0.mk (show (w4.alloc (.cells #[.int .i64 lsn, .slice A4 el c4] 32)).grownBy w6 (Value.slice A5 n5 c5).ownBlock from grown_trans (Below.refl _ _) (by repeat (first | exact Below.refl _ _ | apply below_drew1 | apply below_alloc)) hgr)
              have HOR := Aside0.mk (show (Value.slice (some ⟨g2, 0, none⟩) (n5 + 1) cap2).ownBlock = (Value.slice A5 n5 c5).ownBlock ∨ ∀ k, (Value.slice (some ⟨g2, 0, none⟩) (n5 + 1) cap2).ownBlock = some k → (w4.alloc (.cells #[.int .i64 lsn, .slice A4 el c4] 32)).heap.size ≤ k from by
                rcases hor with h | h
                · exact .inl h.symm
                · exact .inr fun j hj => by
                    have : g2 = j := by simpa [Value.ownBlock] using hj
                    simp
                    omega)
              clear hown hgr hor
              have HMOV := Aside0.mk (show ∀ (v : Value) (es : List (Int × Int)), P2 (w4.alloc (.cells #[.int .i64 lsn, .slice A4 el c4] 32)) 109 v es → P2 w6 109 v es from fun v es hp => ⟨ow_move hp.1 fun j hj => by
                obtain ⟨_, c, hc⟩ := ow_block hp.1 hj
                refine HGR.out.block j (heap_lt hc) fun e => ?_
                obtain ⟨_, c2, hc2⟩ := ow_block HH5.out.frs.row e.symm
                rw [hc2] at hc
                injection hc with hc; injection hc with _ hc
                exact absurd hc (by decide), hp.2⟩)
              have HPE5 := Aside0.mk (show P2 (w4.alloc (.cells #[.int .i64 lsn, .slice A4 el c4] 32)) 109 (.slice A4 el c4) es from P2.below HPE.out (below_alloc (Below.refl _ _) _))
              have hmap : (fs5 ++ [(⟨n, lsn, .slice A4 el c4, es⟩ : Fr)]).map forget = S1.here ++ [⟨n, lsn, es⟩] := by rw [List.map_append, HH5.out.eq]; rfl
              have HSY := Aside0.mk (sys_here (fs' := fs5 ++ [(⟨n, lsn, .slice A4 el c4, es⟩ : Fr)]) (h' := .slice (some ⟨g2, 0, none⟩) (n5 + 1) cap2) HX5.out HT5.out HH5.out (w1 := w6) (by
                  rw [List.length_append, HN5.out, frCells_append]
                  exact HOWN.out) (fun f hf => by
                  rcases List.mem_append.1 hf with hf | hf
                  · exact HMOV.out _ _ (HH5.out.frs.pages f hf)
                  · rw [List.mem_singleton] at hf
                    subst hf
                    exact HMOV.out _ _ HPE5.out) (by rw [hmap]; exact HHO.out) HGR.out HOR.out)
              rw [hmap] at HSY
              clear hmap
              have HX7 := Aside0.mk (HSY.out.1.mono (M' := Gr M w (w6.setCell ⟨pp, 4, none⟩ (.slice (some ⟨g2, 0, none⟩) (n5 + 1) cap2))) fun j hj => by
                have h1 := HF4.out.size
                have h2 := HGR.out.size
                simp at h2
                rcases hj with (hj | ⟨ha, hb⟩) | ⟨ha, hb⟩
                · exact .inl hj
                · exact .inr ⟨ha, by simp at hb; simp [World.setCell]; omega⟩
                · exact .inr ⟨by simp at ha; omega, by simp [World.setCell]; exact hb⟩)
              have HF57 := Aside0.mk HSY.out.2
              have HF7 := Aside0.mk ((HF4.out.alloc (.cells #[.int .i64 lsn, .slice A4 el c4] 32)).transG (frm_sys4 HSY.out.2))
              obtain ⟨wz, hwz⟩ : ∃ wz, w6.setCell ⟨pp, 4, none⟩ (.slice (some ⟨g2, 0, none⟩) (n5 + 1) cap2) = wz := ⟨_, rfl⟩
              rw [hwz] at HX7 HF7 HF57 ⊢
              have HB6z := Aside0.mk (show wz.heap[w.heap.size]? = some (.cells #[.int .i64 0, .slice none 0 0] 32 (0, 0)) from HF57.out.at (((below_alloc (Below.refl _ _) _).block _ (heap_lt HB64.out)).trans HB64.out) (.inl (by decide)))
              have HBz := Aside0.mk (show wz.heap[w4.heap.size]? = some (.cells #[.int .i64 lsn, .slice A4 el c4] 32 (0, 0)) from HF57.out.at (heap_alloc_new _ _) (.inl (by decide)))
              have HPz := Aside0.mk (show P2 wz 109 (.slice A4 el c4) es from HPE5.out.frm HF57.out (by decide))
              obtain ⟨r0, r1, _, _⟩ := page_cells HBz.out
              clear hwz hs1 hs2 hkg hlt3 hi0 hz0 hz1 hz2 HSY
              go_wp2_with fail
              refine (own_calls lsn _ es _ HPz.out).mono ?_
              rintro e w8 ⟨v8, rfl, hp8, hb8⟩
              have HP8 := Aside0.mk hp8
              have HB68 := Aside0.mk (show w8.heap[w.heap.size]? = some (.cells #[.int .i64 0, .slice none 0 0] 32 (0, 0)) from (hb8.block w.heap.size (heap_lt HB6z.out)).trans HB6z.out)
              have HB8 := Aside0.mk hb8
              obtain ⟨q0, q1, q2, q3⟩ := page_cells HB68.out
              obtain ⟨A8, c8, rfl, _⟩ := ow_slice hp8.1
              have hz8 : w.heap.size < w8.heap.size := heap_lt HB68.out
              clear hb8 hp8 r0 r1
              go_wp2_with fail
              have HTW := Aside0.mk (show Two w.heap.size w8 ((w8.setCell ⟨w.heap.size, 0, none⟩ (.int .i64 lsn)).setCell ⟨w.heap.size, 1, none⟩ (.slice A8 es.length c8)) from ((Two.refl _ _).set 0 _).set 1 _)
              refine bodyPost_ret (v := .tuple #[.agg #[.int .i64 lsn, .slice A8 es.length c8], .nilIface]) (by simp [results, Tryd.results10, go_sem, q0, q1, q2, q3]) rfl ⟨.slice A8 es.length c8, .nilIface, by rw [HR.out], by rw [HR.out]; exact HTW.out.p2 HP8.out HB68.out, by rw [HR.out]; rfl, by
                rw [HR.out]
                exact HTW.out.sys ((HX7.out.below HB8.out).mono fun k hk => by
                  rcases hk with hk | ⟨h1, h2⟩
                  · exact .inl hk
                  · exact .inr ⟨h1, by have := HB8.out.size; omega⟩) HB68.out, HTW.out.frm (HF7.out.step HB8.out) (Nat.le_refl _)⟩
  · have HFD := Aside0.mk (show findP S.here n = some (forget f) by rw [← HH.out.eq]; exact hfd)
    have HFI := Aside0.mk hfi
    have hii : idxOf fs n = (i : Int) := by unfold idxOf; rw [hi]; omega
    have hil : i < fl := by rw [← HFLN.out]; exact (List.getElem?_eq_some_iff.1 hfi).1
    obtain ⟨fn, lsn, fv, es⟩ := f
    simp only at hfn
    have HII := Aside0.mk hii
    clear hfd hfi hfn hi HIF hii
    go_enter Tryd.func10, Tryd.ntmps10
    go_wp2_with fail
    refine (HAT.out _ (HH.out.frs.below (below_alloc (Below.refl _ _) _)) (by rw [World.cell?_alloc_lt _ _ _ (by exact hpl)]; exact (pool_cells HT.out).2.2.2.2)).mono ?_
    rintro e w1 ⟨rfl, hb⟩
    have HB6 := Aside0.mk (show w1.heap[w.heap.size]? = some (.cells #[.int .i64 0, .slice none 0 0] 32 (0, 0)) from (hb.block w.heap.size (by simp)).trans (heap_alloc_new w _))
    have HB := Aside0.mk (below_step (below_alloc (Below.refl w.heap.size w) _) hb)
    rw [HII.out]
    clear hb
    have hh1 := HH.out.below HB.out
    obtain ⟨_, _, _, _, g4⟩ := pool_cells (HT.out.below HB.out)
    obtain ⟨g, hA, hll, d0, d1, d2, A', c', hfv⟩ := hh1.frs.at HFI.out
    simp only at d0 d1 d2 hfv
    have HP1 := Aside0.mk (show P2 w1 109 fv es from hh1.frs.pages ⟨fn, lsn, fv, es⟩ (List.mem_of_getElem? HFI.out))
    subst hA hfv
    have hi0 : (0 : Int) ≤ (i : Int) := by omega
    clear hh1 hll d0
    go_wp2_with fail
    refine (own_calls lsn _ es _ HP1.out).mono ?_
    rintro e w2 ⟨v2, rfl, hp2, hb⟩
    have HP2 := Aside0.mk hp2
    have HB26 := Aside0.mk (show w2.heap[w.heap.size]? = some (.cells #[.int .i64 0, .slice none 0 0] 32 (0, 0)) from (hb.block w.heap.size (heap_lt HB6.out)).trans HB6.out)
    have HB2 := Aside0.mk (below_step HB.out hb)
    have q0 : w2.cell? ⟨w.heap.size, 0, none⟩ = some (.int .i64 0) := by simp [World.cell?, HB26.out]
    have q1 : w2.cell? ⟨w.heap.size, 1, none⟩ = some (.slice none 0 0) := by simp [World.cell?, HB26.out]
    have q2 : w2.frozen? ⟨w.heap.size, 0, none⟩ = false := by simp [World.frozen?, HB26.out]
    have q3 : w2.frozen? ⟨w.heap.size, 1, none⟩ = false := by simp [World.frozen?, HB26.out]
    obtain ⟨A2, c2, rfl, _⟩ := ow_slice hp2.1
    have hz2 : w.heap.size < w2.heap.size := heap_lt HB26.out
    clear hb hp2 d1 d2 g4
    go_wp2_with fail
    have HTW := Aside0.mk (show Two w.heap.size w2 ((w2.setCell ⟨w.heap.size, 0, none⟩ (.int .i64 lsn)).setCell ⟨w.heap.size, 1, none⟩ (.slice A2 es.length c2)) from ((Two.refl _ _).set 0 _).set 1 _)
    refine bodyPost_ret (v := .tuple #[.agg #[.int .i64 lsn, .slice A2 es.length c2], .nilIface]) (by simp [results, Tryd.results10, go_sem, q0, q1, q2, q3]) rfl ⟨.slice A2 es.length c2, .nilIface, by rw [getS_found HFD.out]; rfl, by rw [getS_found HFD.out]; exact HTW.out.p2 HP2.out HB26.out, by rw [getS_found HFD.out]; rfl, by rw [getS_found HFD.out]; exact HTW.out.sys ((HX.out.below HB2.out).mono fun k hk => .inl hk) HB26.out, HTW.out.frm (Frm.of_below HB2.out) (Nat.le_refl _)⟩

end Go.Proofs.YtlgpkbhajloajaaDoor.PoolG
/- The contract of pool.Set. No condition but that api's errors are what their text says. -/
namespace Go.Proofs.YtlgpkbhajloajaaDoor.PoolS
open Go.RowKit Go.Proofs.YtlgpkbhajloajaaDoorW.PrintWords Go.Proofs.YtlgpkbhajloajaaDoorW.PrintLast Go.Proofs.YtlgpkbhajloajaaDoorW.PrintMore
open Go.Proofs.YtlgpkbhajloajaaDoor.See Go.Proofs.YtlgpkbhajloajaaDoor.Mem Go.Proofs.YtlgpkbhajloajaaDoor.Clone Go.Proofs.YtlgpkbhajloajaaDoor.Cell Go.Proofs.YtlgpkbhajloajaaDoor.Page Go.Proofs.YtlgpkbhajloajaaDoor.PageB Go.Proofs.YtlgpkbhajloajaaDoor.PageR Go.Proofs.YtlgpkbhajloajaaDoor.Disk Go.Proofs.YtlgpkbhajloajaaDoor.DiskW Go.Proofs.YtlgpkbhajloajaaDoor.DiskS Go.Proofs.YtlgpkbhajloajaaDoor.RecD Go.Proofs.YtlgpkbhajloajaaDoor.Pool1 Go.Proofs.YtlgpkbhajloajaaDoor.Pool3 Go.Proofs.YtlgpkbhajloajaaDoor.Wal Go.Proofs.YtlgpkbhajloajaaDoor.WalF Go.Proofs.YtlgpkbhajloajaaDoor.Dirty Go.Proofs.YtlgpkbhajloajaaDoor.Dirty2 Go.Proofs.YtlgpkbhajloajaaDoor.SysD Go.Proofs.YtlgpkbhajloajaaDoor.SysM Go.Proofs.YtlgpkbhajloajaaDoor.PoolF Go.Proofs.YtlgpkbhajloajaaDoor.PoolE Go.Proofs.YtlgpkbhajloajaaDoor.PoolG Go.Proofs.YtlgpkbhajloajaaDoor.Del Go.Proofs.YtlgpkbhajloajaaDoor.Rw
attribute [local go_sem] max2_imax min2_imin max_two min_two
set_option linter.unusedVariables false
set_option linter.unusedSimpArgs false

/-- A cell that is written as it is. -/
theorem set_same {w : World} {b i e : Nat} {v : Value} {c : Array Value} (hb : w.heap[b]? = some (.cells c e (0, 0))) (hc : c[i]? = some v) : w.setCell ⟨b, i, none⟩ v = w := by
  have hh : (w.setCell ⟨b, i, none⟩ v).heap = w.heap := by
    apply Array.ext_getElem?
    intro k
    by_cases hk : k = b
    · subst hk
      rw [heap_setCell_same _ _ _ _ _ _ hb, hb]
      have : c.setIfInBounds i v = c := by
        apply Array.ext_getElem?
        intro j
        rw [Array.getElem?_setIfInBounds]
        by_cases hj : i = j
        · subst hj
          have := (Array.getElem?_eq_some_iff.1 hc).1
          simp [this, hc]
          exact (Array.getElem?_eq_some_iff.1 hc).2.symm
        · simp [hj]
      rw [this]
    · exact Below.heap_setCell _ _ _ _ (by exact hk)
  cases w
  simp only [World.setCell] at hh ⊢
  rw [hh]

/-- The frames' row turned in place. -/
theorem sys_turn {M : Nat → Prop} {w w1 : World} {pp lp dp : Nat} {S : PSys} {t h : Value} {fs fs' : List Fr} (x : SysM M w pp lp dp S) (ht : TabM M w pp (poolCells t dp lp S.frames h) t S.t) (hh : FrsP M w h fs S.here)
    (ho : w1.ownsRow 0 74 3 h fs'.length (frCells fs')) (hp : ∀ f ∈ fs', P2 w1 109 f.v f.es) (hok : HereOk (fs'.map forget)) (hg : w.grownBy w1 h.ownBlock) :
    SysM (Gr M w w1) w1 pp lp dp { S with here := fs'.map forget } ∧ Frm fTurn M w w1 := by
  have hpl := heap_lt ht.box
  have hb1 : w1.heap[pp]? = some (.cells (poolCells t dp lp S.frames h) 79 (0, 0)) := (hg.block pp hpl (fun e => frs_pool hh ht e.symm)).trans ht.box
  have := sys_here x ht hh ho hp hok hg (.inl rfl)
  rw [set_same hb1 (by rfl)] at this
  exact this

theorem map_once {n : Int} {g : Fp} : ∀ (here : List Fp) (i : Nat) (f : Fp), (here.Pairwise fun a b => a.n ≠ b.n) → here[i]? = some f → f.n = n → here.map (fun x => if x.n = n then g else x) = here.set i g
  | [], i, f, _, h, _ => by simp at h
  | x :: xs, 0, f, ho, h, hn => by
    simp at h
    subst h
    rw [List.pairwise_cons] at ho
    rw [List.map_cons, if_pos hn, List.set_cons_zero]
    congr 1
    refine (List.map_congr_left (g := fun y => y) fun y hy => if_neg (fun e => ho.1 y hy (hn.trans e.symm))).trans (by simp)
  | x :: xs, i + 1, f, ho, h, hn => by
    rw [List.pairwise_cons] at ho
    simp at h
    rw [List.map_cons, if_neg (fun e => ho.1 f (List.mem_of_getElem? h) (e.trans hn.symm)), List.set_cons_succ, map_once xs i f ho.2 h hn]

theorem here_set {here : List Fp} {n lsn : Int} {es : List (Int × Int)} (h : HereOk here) (hk : pageOk lsn es = true) : HereOk (here.map fun x => if x.n = n then ⟨n, lsn, es⟩ else x) := by
  have hn : ∀ x : Fp, (if x.n = n then (⟨n, lsn, es⟩ : Fp) else x).n = x.n := fun x => by split <;> simp [*]
  refine ⟨by simpa using h.few, ?_, fun f hf => ?_⟩
  · rw [List.pairwise_map]
    exact h.once.imp fun {a b} hab => by rw [hn, hn]; exact hab
  · obtain ⟨y, hy, rfl⟩ := List.mem_map.1 hf
    split
    · exact hk
    · exact h.ok y hy

theorem frCells_set : ∀ (fs : List Fr) (i : Nat) (f : Fr) (l : Int) (v : Value) (es : List (Int × Int)), fs[i]? = some f → setL (frCells fs) (i * 3 + 1) [.int .i64 l, v] = frCells (fs.set i ⟨f.n, l, v, es⟩)
  | [], i, f, l, v, es, h => by simp at h
  | x :: xs, 0, f, l, v, es, h => by
    simp at h
    subst h
    simp [frCells, List.flatMap_cons, setL]
  | x :: xs, i + 1, f, l, v, es, h => by
    simp at h
    have ih := frCells_set xs i f l v es h
    have e : frCells (x :: xs) = [.int .i64 x.n, .int .i64 x.lsn, x.v] ++ frCells xs := by simp [frCells, List.flatMap_cons]
    have e2 : frCells ((x :: xs).set (i + 1) ⟨f.n, l, v, es⟩) = [.int .i64 x.n, .int .i64 x.lsn, x.v] ++ frCells (xs.set i ⟨f.n, l, v, es⟩) := by simp [frCells, List.flatMap_cons]
    rw [e, e2, ← ih]
    rw [show (i + 1) * 3 + 1 = i * 3 + 1 + 1 + 1 + 1 from by omega]
    simp [setL, List.set_cons_succ]

theorem p2_grown {M : Nat → Prop} {w w1 : World} {h : Value} {fs : List Fr} {here : List Fp} {v : Value} {es : List (Int × Int)} (hh : FrsP M w h fs here) (hg : w.grownBy w1 h.ownBlock) (hp : P2 w 109 v es) : P2 w1 109 v es :=
  ⟨ow_move hp.1 fun j hj => by
    obtain ⟨_, c, hc⟩ := ow_block hp.1 hj
    refine hg.block j (heap_lt hc) fun e => ?_
    obtain ⟨_, c2, hc2⟩ := ow_block hh.frs.row e.symm
    rw [hc2] at hc
    injection hc with hc; injection hc with _ hc
    exact absurd hc (by decide), hp.2⟩
theorem tab_keep {M : Nat → Prop} {p : Nat} {cs : Array Value} {ds : List (Int × Int)} {w w' : World} {b : Nat} {u v : Value} (h : TabPost M p cs ds w w') (hb : w.heap[b]? = some (.cells #[u, v] 32 (0, 0))) : w'.cell? ⟨b, 0, none⟩ = some u := by
  obtain ⟨v', _, hf⟩ := h
  exact (page_cells (hf.at hb (.inl (by decide)))).1

/-- What pool.Set comes to. -/
def PSetPost (a : Nat → Addr) (M : Nat → Prop) (pp lp dp : Nat) (S : PSys) (n lsn : Int) (es : List (Int × Int)) (w : World) (e : Ending) (w' : World) : Prop :=
  e = .returned (errv a (setS S n lsn es).2) ∧ SysM (Gr M w w') w' pp lp dp (setS S n lsn es).1 ∧ Frm sTurn M w w'

theorem setS_none {S : PSys} {n lsn : Int} {es : List (Int × Int)} (h : findP S.here n = none) : setS S n lsn es = (S, some 1) := by unfold setS; rw [h]
theorem setS_bad {S : PSys} {n lsn : Int} {es : List (Int × Int)} {f : Fp} (h : findP S.here n = some f) (hk : pageOk lsn es = false) : setS S n lsn es = (S, some 1) := by unfold setS; rw [h]; simp [hk]
theorem setS_ok {S : PSys} {n lsn : Int} {es : List (Int × Int)} {f : Fp} (h : findP S.here n = some f) (hk : pageOk lsn es = true) : setS S n lsn es = ({ S with here := S.here.map fun g => if g.n = n then ⟨n, lsn, es⟩ else g, t := addT S.t n lsn }, none) := by unfold setS; rw [h]; simp [hk]
theorem addT_len (ds : List (Int × Int)) (n f : Int) : (addT ds n f).length ≤ ds.length + 1 := by
  unfold addT
  split
  · omega
  · simp; omega

set_option maxHeartbeats 8000000 in
set_option maxRecDepth 100000 in
theorem set_pool (a : Nat → Addr) (M : Nat → Prop) (pp lp dp : Nat) (S : PSys) (n lsn : Int) (v : Value) (es : List (Int × Int)) (w : World) (hs : Sents w a) (x : SysM M w pp lp dp S) (hp : P2 w 109 v es) (ht : S.t.length ≤ 70000) :
    Calls Tryd.prog 15 #[.pointer (some ⟨pp, 0, none⟩), .int .i64 n, .agg #[.int .i64 lsn, v]] w (PSetPost a M pp lp dp S n lsn es w) := by
  obtain ⟨t, h, fs, htab, hh⟩ := x.pool
  have HTL := Aside0.mk ht
  have HS := Aside0.mk hs
  have HX := Aside0.mk x
  have HT := Aside0.mk htab
  have HH := Aside0.mk hh
  have HP := Aside0.mk hp
  have HIF := Aside0.mk (idx_find n fs 0)
  obtain ⟨A, cap, hv, _⟩ := ow_slice hh.frs.row
  obtain ⟨fl, hfl⟩ : ∃ fl, fs.length = fl := ⟨_, rfl⟩
  have hf8 : fl ≤ 8 := by rw [← hfl]; exact hh.frs.few
  have HFLN := Aside0.mk hfl
  rw [hfl] at hv
  obtain ⟨Ae, ce, hve, _⟩ := ow_slice hp.1
  obtain ⟨el, hel⟩ : ∃ el, es.length = el := ⟨_, rfl⟩
  have HEL := Aside0.mk hel
  rw [hel] at hve
  have hpl := heap_lt htab.box
  have HAT := Aside0.mk (fun W hf hc => at_pool pp h fs n W hf hc)
  have HSAME := Aside0.mk (show setS S n lsn es = (S, some 1) → ∀ w', Below w.heap.size w w' → PSetPost a M pp lp dp S n lsn es w (.returned (.iface 163 (.pointer (some (a 1))))) w' from fun h0 w' hb => ⟨by rw [h0]; rfl, by rw [h0]; exact (x.below hb).mono fun k hk => .inl hk, Frm.of_below hb⟩)
  clear hs x hp htab hh ht hfl hel
  subst hv hve
  go_enter Tryd.func15, Tryd.ntmps15
  go_wp2_with fail
  refine (HAT.out _ (HH.out.frs.below (below_alloc (Below.refl _ _) _)) (by rw [World.cell?_alloc_lt _ _ _ (by exact hpl)]; exact (pool_cells HT.out).2.2.2.2)).mono ?_
  rintro e w1 ⟨rfl, hb⟩
  have HBX := Aside0.mk (show w1.heap[w.heap.size]? = some (.cells #[.int .i64 lsn, .slice Ae el ce] 32 (0, 0)) from (hb.block w.heap.size (by simp)).trans (heap_alloc_new w _))
  have HB := Aside0.mk (below_step (below_alloc (Below.refl w.heap.size w) _) hb)
  clear hb
  have HS1 := Aside0.mk (HS.out.below HB.out)
  have g1 : w1.cell? ⟨0, 0, none⟩ = some (.iface 163 (.pointer (some (a 1)))) := HS1.out.cell 1 (by decide)
  rcases HIF.out with ⟨hn, hi⟩ | ⟨i, f, hfd, hfi, hfn, hi⟩
  · have HR := Aside0.mk (show setS S n lsn es = (S, some 1) from setS_none (by rw [← HH.out.eq]; exact hn))
    have hii : idxOf fs n = -1 := hi
    rw [hii]
    clear hn hi hii HIF
    go_wp2_with fail
    go_ret
    exact HSAME.out HR.out _ HB.out
  · have HFD := Aside0.mk (show findP S.here n = some (forget f) by rw [← HH.out.eq]; exact hfd)
    have HFI := Aside0.mk hfi
    have hii : idxOf fs n = (i : Int) := by unfold idxOf; rw [hi]; omega
    have hil : i < fl := by rw [← HFLN.out]; exact (List.getElem?_eq_some_iff.1 hfi).1
    have HFN := Aside0.mk hfn
    rw [hii]
    clear hfd hfi hfn hi HIF hii
    obtain ⟨q0, q1, q2, q3⟩ := page_cells HBX.out
    have hi0 : (0 : Int) ≤ (i : Int) := by omega
    go_wp2_with fail
    refine (check_calls a lsn _ es _ HS1.out (P2.below HP.out HB.out)).mono ?_
    rintro e w2 ⟨rfl, hb⟩
    have HB2 := Aside0.mk hb
    have HB20 := Aside0.mk (below_step HB.out hb)
    have HBX2 := Aside0.mk (show w2.heap[w.heap.size]? = some (.cells #[.int .i64 lsn, .slice Ae el ce] 32 (0, 0)) from (hb.block w.heap.size (heap_lt HBX.out)).trans HBX.out)
    clear hb q0 q1 q2 q3 g1
    cases hok : pageOk lsn es with
    | false =>
      have HR := Aside0.mk (setS_bad HFD.out hok)
      have hce : checkE lsn es = some 1 := by unfold checkE; rw [hok]; rfl
      rw [hce, show errv a (some 1) = .iface 163 (.pointer (some (a 1))) from rfl]
      clear hce hok
      go_wp2_with fail
      go_ret
      exact HSAME.out HR.out _ HB20.out
    | true =>
      have HR := Aside0.mk (setS_ok HFD.out hok)
      have HOK := Aside0.mk hok
      have hce : checkE lsn es = none := by unfold checkE; rw [hok]; rfl
      rw [hce, show errv a none = .nilIface from rfl]
      clear hce hok
      have hh2 := HH.out.below HB20.out
      obtain ⟨_, _, _, _, g4⟩ := pool_cells (HT.out.below HB20.out)
      obtain ⟨g, hA, hll, d0, d1, d2, A', c', hfv⟩ := hh2.frs.at HFI.out
      subst hA
      obtain ⟨q0, q1, q2, q3⟩ := page_cells HBX2.out
      have hgl := World.block_lt_of_cell? _ _ d1
      simp only at hgl
      obtain ⟨_, cur, hcur⟩ := ow_block hh2.frs.row (show (Value.slice (some ⟨g, 0, none⟩) fl cap).ownBlock = some g from rfl)
      have hgn1 : pp ≠ g := fun e => by subst e; exact frs_pool HH.out HT.out rfl
      have hgn2 : g ≠ pp := fun e => hgn1 e.symm
      have hgw : g < w.heap.size := by obtain ⟨_, c, hc⟩ := ow_block HH.out.frs.row (show (Value.slice (some ⟨g, 0, none⟩) fl cap).ownBlock = some g from rfl); exact heap_lt hc
      have hgn3 : w.heap.size ≠ g := by omega
      have hgn4 : g ≠ w.heap.size := by omega
      have e1 : w2.frozen? ⟨g, i * 3 + 1, none⟩ = false := by simp [World.frozen?, hcur]
      have e2 : w2.frozen? ⟨g, i * 3 + 2, none⟩ = false := by simp [World.frozen?, hcur]
      have hz2 : w.heap.size < w2.heap.size := heap_lt HBX2.out
      have hpl2 : pp < w2.heap.size := by omega
      rw [hfv] at d2
      clear hh2 hll d0 hcur hfv
      go_wp2_with fail
      go_region_held3 (fun w' => w'.cell? ⟨w.heap.size, 0, none⟩ = some (.int .i64 lsn) ∧ w'.cell? ⟨w.heap.size, 1, none⟩ = some (.slice Ae el ce) ∧ w'.cell? ⟨pp, 4, none⟩ = some (.slice (some ⟨g, 0, none⟩) fl cap))
        (refine ⟨?_, ?_, ?_⟩ <;> (first | go_keep | exact hk1 | exact hk2 | exact hk3 | (rw [World.cell?_setCell_other _ _ _ _ (by simp [hgn1, hgn2, hgn3, hgn4]), World.cell?_setCell_other _ _ _ _ (by simp [hgn1, hgn2, hgn3, hgn4])]; first | exact hk1 | exact hk2 | exact hk3)))
        (first | (go_at_call 31; refine (own_calls lsn _ es _ (P2.below HP.out (below_step HB20.out (by repeat (first | exact Below.refl _ _ | apply below_drew1 | apply below_alloc))))).mono ?_; rintro e w3 ⟨v3, rfl, hp3, hb⟩; obtain ⟨A3, c3, rfl, _⟩ := ow_slice hp3.1; have hk1 : w3.cell? ⟨w.heap.size, 0, none⟩ = some (.int .i64 lsn) := pw_cell_below hb q0; have hk2 : w3.cell? ⟨w.heap.size, 1, none⟩ = some (.slice Ae el ce) := pw_cell_below hb q1; have hk3 : w3.cell? ⟨pp, 4, none⟩ = some (.slice (some ⟨g, 0, none⟩) fl cap) := pw_cell_below hb g4; have d3 : w3.cell? ⟨g, i * 3 + 1, none⟩ = some (.int .i64 f.lsn) := pw_cell_below hb d1; have d4 : w3.cell? ⟨g, i * 3 + 2, none⟩ = some (.slice A' f.es.length c') := pw_cell_below hb d2; have e3 : w3.frozen? ⟨g, i * 3 + 1, none⟩ = false := (hb.frozen (p := ⟨g, i * 3 + 1, none⟩) (by exact hgl)).trans e1; have e4 : w3.frozen? ⟨g, i * 3 + 2, none⟩ = false := (hb.frozen (p := ⟨g, i * 3 + 2, none⟩) (by exact hgl)).trans e2))
      have HP3 := Aside0.mk hp3
      have HB3 := Aside0.mk (show Below w2.heap.size w2 w3 from below_step (by repeat (first | exact Below.refl _ _ | apply below_drew1 | apply below_alloc)) hb)
      have HB30 := Aside0.mk (below_step HB20.out HB3.out)
      have HR3 := Aside0.mk (show w3.ownsRow 0 74 3 (.slice (some ⟨g, 0, none⟩) fl cap) fl (frCells fs) from by have h := (HH.out.below HB30.out).frs.row; rw [HFLN.out] at h; exact h)
      obtain ⟨ho, hg⟩ := own_setCells [.int .i64 lsn, .slice A3 es.length c3] (i * 3 + 1) w3 _ HR3.out
      have hmap : (fs.set i (⟨f.n, lsn, .slice A3 es.length c3, es⟩ : Fr)).map forget = S.here.map fun g => if g.n = n then ⟨n, lsn, es⟩ else g := by
        have hhi : S.here[i]? = some (forget f) := by rw [← HH.out.eq, List.getElem?_map, HFI.out]; rfl
        rw [map_once S.here i (forget f) HX.out.here.once hhi HFN.out, List.map_set, HH.out.eq]
        show S.here.set i ⟨f.n, lsn, es⟩ = _
        rw [HFN.out]
      have HSY := Aside0.mk (sys_turn (HX.out.below HB30.out) (HT.out.below HB30.out) (HH.out.below HB30.out) (fs' := fs.set i (⟨f.n, lsn, .slice A3 es.length c3, es⟩ : Fr)) (by
        rw [List.length_set, HFLN.out, ← frCells_set fs i f lsn (.slice A3 es.length c3) es HFI.out]
        exact ho) (fun q hq => by
        rcases List.mem_or_eq_of_mem_set hq with hq | rfl
        · exact p2_grown (HH.out.below HB30.out) hg ((HH.out.below HB30.out).frs.pages q hq)
        · exact p2_grown (HH.out.below HB30.out) hg HP3.out) (by rw [hmap]; exact here_set HX.out.here HOK.out) hg)
      rw [hmap] at HSY
      clear hmap
      have hsz : (w3.setCells g (i * 3 + 1) [.int .i64 lsn, .slice A3 es.length c3]).heap.size = w3.heap.size := Del.setCells_size _ _
      have hcc : (w3.setCell ⟨g, i * 3 + 1, none⟩ (.int .i64 lsn)).setCell ⟨g, i * 3 + 1 + 1, none⟩ (.slice A3 es.length c3) = w3.setCells g (i * 3 + 1) [.int .i64 lsn, .slice A3 es.length c3] := rfl
      rw [hcc]
      obtain ⟨wz, hwz⟩ : ∃ wz, w3.setCells g (i * 3 + 1) [.int .i64 lsn, .slice A3 es.length c3] = wz := ⟨_, rfl⟩
      rw [hwz] at HSY hsz ⊢
      have HBZ := Aside0.mk (show wz.heap[w.heap.size]? = some (.cells #[.int .i64 lsn, .slice Ae el ce] 32 (0, 0)) from HSY.out.2.at ((HB3.out.block _ (heap_lt HBX2.out)).trans HBX2.out) (.inl (by decide)))
      have HXZ := Aside0.mk (show SysM (Gr M w wz) wz pp lp dp { S with here := S.here.map fun g => if g.n = n then ⟨n, lsn, es⟩ else g } from HSY.out.1.mono fun k hk => by
        rcases hk with hk | ⟨h1, h2⟩
        · exact .inl hk
        · exact .inr ⟨by have := HB30.out.size; omega, h2⟩)
      have HFZ := Aside0.mk (show Frm sTurn M w wz from (Frm.of_below HB30.out).trans (frm_sys4 HSY.out.2))
      obtain ⟨t6, h6, fs6, ht6, hh6⟩ := HXZ.out.pool
      have HT6 := Aside0.mk ht6
      have HH6 := Aside0.mk hh6
      obtain ⟨r0, r1, _, _⟩ := page_cells HBZ.out
      clear ht6 hh6 hwz hcc ho hg hp3 hb hk1 hk2 hk3 d1 d2 d3 d4 e1 e2 e3 e4 q0 q1 q2 q3 g4 hsz hgl hz2 hpl2
      go_wp2_with fail
      go_region_held3 (fun w' => w'.cell? ⟨w.heap.size, 0, none⟩ = some (.int .i64 lsn))
        (first | go_keep | exact hk1)
        (first | (go_at_call 37; refine (add_calls (Gr M w wz) pp _ t6 S.t n lsn wz.drew (HT6.out.below (below_drew1 (Below.refl _ _))) (by have := HTL.out; omega)).mono ?_; rintro e w7 ⟨rfl, hp7⟩; have hk1 : w7.cell? ⟨w.heap.size, 0, none⟩ = some (.int .i64 lsn) := tab_keep hp7 (show wz.drew.heap[w.heap.size]? = _ from HBZ.out)))
      have hXD : SysM (Gr M w wz) wz.drew pp lp dp { S with here := S.here.map fun g => if g.n = n then ⟨n, lsn, es⟩ else g } := HXZ.out.below (below_drew1 (Below.refl _ _))
      obtain ⟨hx7, hf7⟩ := hXD.tabs (HT6.out.below (below_drew1 (Below.refl _ _))) (HH6.out.below (below_drew1 (Below.refl _ _))) hp7 (Nat.le_trans (addT_len _ _ _) (by have := HTL.out; show S.t.length + 1 ≤ 80000; omega))
      have HX7 := Aside0.mk hx7
      have HF7 := Aside0.mk hf7
      clear hx7 hf7 hp7 hXD
      go_wp2_with fail
      go_ret
      have hzz := HFZ.out.size
      have hz7 := HF7.out.size
      refine ⟨by rw [HR.out]; rfl, ?_, HFZ.out.drew.transG ?_⟩
      · rw [HR.out]
        exact HX7.out.mono fun k hk => by
          rcases hk with (hk | ⟨h1, h2⟩) | ⟨h1, h2⟩
          · exact .inl hk
          · exact .inr ⟨h1, Nat.lt_of_lt_of_le h2 hz7⟩
          · exact .inr ⟨Nat.le_trans hzz h1, h2⟩
      · exact frm_sys3 HF7.out

end Go.Proofs.YtlgpkbhajloajaaDoor.PoolS
