/- The contracts of the statements' helpers on errors: api's errors as plain data. No condition but that api's errors are what their text says. -/
import Derived.Test.YtlgpkbhajloajaaDoorProg
import Derived.Below
import Derived.Deep.Draws
import Derived.Deep.AppendLies
import Derived.Maps.AppendAt
import Derived.OwnWalk
import Derived.Laws.BytesArg
import Derived.Laws.MakeOwn
import Derived.Laws.OwnMore
import Derived.Deep.OwnRows
import Derived.Tactics
import Derived.Lib.ConvBytes
import Derived.Laws.Slices
import Derived.WalkKit
import Derived.KernelRfl
import Derived.RowKit3
import Derived.Deep.LoopGhost
import Derived.Deep.QuietTactic
import Derived.BigQuiet
import Derived.WideLaws
import Derived.Deep.DeepCutAuto
import Derived.Deep.CutBlock
import Derived.Deep.RegionHeld3
import Derived.Laws.Rows
import Derived.Lib.AppendStr
import Derived.ArgAppend
import Derived.Laws.IdiomCopy
import Derived.OrdersHeld
import Derived.Laws.BitsLemmas
import Derived.RowKit
import Derived.Test.YtlgpkbhajloajaaDoorWWords
import Derived.Test.YtlgpkbhajloajaaDoorWLast
import Derived.Test.YtlgpkbhajloajaaDoorWTab
import Derived.Test.YtlgpkbhajloajaaDoorWFour
import Derived.Test.YtlgpkbhajloajaaDoorWQPut
import Derived.Test.YtlgpkbhajloajaaDoorWApart
import Derived.Test.YtlgpkbhajloajaaDoorWArr
import Derived.Test.YtlgpkbhajloajaaDoorWZeros
import Derived.Test.YtlgpkbhajloajaaDoorWFoot
import Derived.Test.YtlgpkbhajloajaaDoorWKept
import Derived.Test.YtlgpkbhajloajaaDoorWShare
import Derived.Test.YtlgpkbhajloajaaDoorWN
import Derived.Test.YtlgpkbhajloajaaDoorWFootNe
import Derived.Test.YtlgpkbhajloajaaDoorWAt
import Derived.Test.YtlgpkbhajloajaaDoorWEqStruct
import Derived.Test.YtlgpkbhajloajaaDoorWRepsOne
import Derived.Test.YtlgpkbhajloajaaDoorWInv
import Derived.Test.YtlgpkbhajloajaaDoorWInvWords
import Derived.Test.YtlgpkbhajloajaaDoorWGuard
import Derived.Test.YtlgpkbhajloajaaDoorWNEv
import Derived.Test.YtlgpkbhajloajaaDoorWMore
import Derived.LaidEql
namespace Go.Proofs.YtlgpkbhajloajaaDoor.See
open Go.RowKit Go.Proofs.YtlgpkbhajloajaaDoorW.PrintWords Go.Proofs.YtlgpkbhajloajaaDoorW.PrintLast Go.Proofs.YtlgpkbhajloajaaDoorW.PrintMore
attribute [local go_sem] max2_int min2_int max_two min_two
set_option linter.unusedVariables false
set_option linter.unusedSimpArgs false

/-- Where api's errors lie: in the order of their numbers. -/
def gl (i : Nat) : Nat := [2,0,3,5,6,7,1,8,4,9,10,11,12,13,14,15,16,17].getD i 0

/-- Some of api's errors are laid: each of those variables holds a pointer of its own. -/
structure SentsK (K : List Nat) (w : World) (a : Nat → Addr) : Prop where
  cell : ∀ i, i ∈ K → w.cell? ⟨gl i, 0, none⟩ = some (.iface 163 (.pointer (some (a i))))
  row : ∀ i, i ∈ K → ∃ c t, w.heap[(a i).block]? = some (.cells c t (0, 0))
  ne : ∀ i j, i ∈ K → j ∈ K → i ≠ j → a i ≠ a j

theorem SentsK.below {K : List Nat} {w w1 : World} {a : Nat → Addr} (h : SentsK K w a) (hb : Below w.heap.size w w1) : SentsK K w1 a := by
  refine ⟨fun i hi => ?_, fun i hi => ?_, h.ne⟩
  · exact (hb.cell (World.block_lt_of_cell? _ _ (h.cell i hi))).trans (h.cell i hi)
  · obtain ⟨c, t, hr⟩ := h.row i hi
    refine ⟨c, t, (hb.block _ ?_).trans hr⟩
    rcases Nat.lt_or_ge (a i).block w.heap.size with h' | h'
    · exact h'
    · rw [Array.getElem?_eq_none h'] at hr; cases hr
theorem SentsK.drewN {K : List Nat} {w : World} {a : Nat → Addr} (h : SentsK K w a) (n : Nat) : SentsK K (w.drewN n) a := ⟨h.cell, h.row, h.ne⟩
theorem SentsK.sub {K K' : List Nat} {w : World} {a : Nat → Addr} (h : SentsK K w a) (hK : ∀ i ∈ K', i ∈ K) : SentsK K' w a :=
  ⟨fun i hi => h.cell i (hK i hi), fun i hi => h.row i (hK i hi), fun i j hi hj => h.ne i j (hK i hi) (hK j hj)⟩
/-- Those that disks and pages and pools tell; with the log's. -/
def kn : List Nat := [0, 1, 2, 6]
def kn8 : List Nat := [0, 1, 2, 6, 8]
abbrev Sents (w : World) (a : Nat → Addr) : Prop := SentsK kn w a

/-- api's errors are laid: each variable holds a pointer of its own. -/
structure SentsAll (w : World) (a : Nat → Addr) : Prop where
  cell : ∀ i, i < 18 → w.cell? ⟨gl i, 0, none⟩ = some (.iface 163 (.pointer (some (a i))))
  row : ∀ i, i < 18 → ∃ c t, w.heap[(a i).block]? = some (.cells c t (0, 0))
  ne : ∀ i j, i < 18 → j < 18 → i ≠ j → a i ≠ a j

theorem row_lt {w : World} {b : Nat} {o : Obj} (h : w.heap[b]? = some o) : b < w.heap.size := by
  rcases Nat.lt_or_ge b w.heap.size with h' | h'
  · exact h'
  · rw [Array.getElem?_eq_none h'] at h; cases h

theorem SentsAll.below {w w1 : World} {a : Nat → Addr} (h : SentsAll w a) (hb : Below w.heap.size w w1) : SentsAll w1 a := by
  refine ⟨fun i hi => ?_, fun i hi => ?_, h.ne⟩
  · exact (hb.cell (p := ⟨gl i, 0, none⟩) (World.block_lt_of_cell? _ _ (h.cell i hi))).trans (h.cell i hi)
  · obtain ⟨c, t, hr⟩ := h.row i hi
    exact ⟨c, t, (hb.block _ (row_lt hr)).trans hr⟩

theorem SentsAll.drewN {w : World} {a : Nat → Addr} (h : SentsAll w a) (n : Nat) : SentsAll (w.drewN n) a := ⟨h.cell, h.row, h.ne⟩
theorem SentsAll.k {w : World} {a : Nat → Addr} (h : SentsAll w a) (K : List Nat) (hK : ∀ i ∈ K, i < 18) : SentsK K w a :=
  ⟨fun i hi => h.cell i (hK i hi), fun i hi => h.row i (hK i hi), fun i j hi hj => h.ne i j (hK i hi) (hK j hj)⟩
theorem SentsK.all {w : World} {a : Nat → Addr} (h : SentsK (List.range 18) w a) : SentsAll w a :=
  ⟨fun i hi => h.cell i (List.mem_range.2 hi), fun i hi => h.row i (List.mem_range.2 hi), fun i j hi hj => h.ne i j (List.mem_range.2 hi) (List.mem_range.2 hj)⟩

theorem infoTES : (Tryd.prog.info? 163).map (fun i => i.comparable) = some true := by kernel_rfl
theorem infoTES2 : (Tryd.prog.info? 179).map (fun i => i.size) = some 1 := by kernel_rfl

theorem eql_same (a : Addr) (w : World) : (binOp .eql 34 (.iface 163 (.pointer (some a))) (.iface 163 (.pointer (some a)))).run Tryd.prog w = .ok (.bool true) w := by
  obtain ⟨i, hi, hc⟩ := Option.map_eq_some_iff.1 infoTES
  obtain ⟨j, hj, _⟩ := Option.map_eq_some_iff.1 infoTES2
  exact run_eql_iface_ptr_same w a Tryd.underlying34 Tryd.underlying163 hi hc hj

theorem eql_other {w : World} {a : Nat → Addr} (h : SentsAll w a) {i j : Nat} (hi : i < 18) (hj : j < 18) (hne : i ≠ j) :
    (binOp .eql 34 (.iface 163 (.pointer (some (a i)))) (.iface 163 (.pointer (some (a j))))).run Tryd.prog w = .ok (.bool false) w := by
  obtain ⟨x, hx, hc⟩ := Option.map_eq_some_iff.1 infoTES
  obtain ⟨y, hy, hs⟩ := Option.map_eq_some_iff.1 infoTES2
  obtain ⟨ci, ti, ri⟩ := h.row i hi
  obtain ⟨cj, tj, rj⟩ := h.row j hj
  exact run_eql_iface_ptr_other w Tryd.underlying34 Tryd.underlying163 hx hc hy (by rw [hs]; decide) (h.ne i j hi hj hne) ri rj

set_option maxHeartbeats 1000000 in
set_option maxRecDepth 100000 in
theorem alike_same (a : Addr) (w : World) :
    Calls Tryd.prog 79 #[.iface 163 (.pointer (some a)), .iface 163 (.pointer (some a))] w fun e w' => e = .returned (.bool true) ∧ Below w.heap.size w w' := by
  have he := eql_same a w
  go_enter Tryd.func79, Tryd.ntmps79
  go_wp2
  go_ret
  exact ⟨rfl, by repeat (first | exact Below.refl _ _ | apply pw_below_drewN | apply below_drew1 | apply below_alloc)⟩

set_option maxHeartbeats 1000000 in
set_option maxRecDepth 100000 in
theorem alike_other (a : Nat → Addr) (i j : Nat) (hi : i < 18) (hj : j < 18) (hne : i ≠ j) (w : World) (h : SentsAll w a) :
    Calls Tryd.prog 79 #[.iface 163 (.pointer (some (a i))), .iface 163 (.pointer (some (a j)))] w fun e w' => e = .returned (.bool false) ∧ Below w.heap.size w w' := by
  have he := eql_other h hi hj hne
  clear h hi hj hne
  generalize a i = x at he ⊢
  generalize a j = y at he ⊢
  go_enter Tryd.func79, Tryd.ntmps79
  go_wp2
  go_ret
  exact ⟨rfl, by repeat (first | exact Below.refl _ _ | apply pw_below_drewN | apply below_drew1 | apply below_alloc)⟩

/-- What a list of api's errors is, in memory. -/
structure Listed (w : World) (b : Nat) (a : Nat → Addr) : Prop where
  cell : ∀ i, i < 18 → w.cell? ⟨b, i, none⟩ = some (.iface 163 (.pointer (some (a i))))

theorem Listed.below {w w1 : World} {b : Nat} {a : Nat → Addr} (h : Listed w b a) (hb : Below w.heap.size w w1) : Listed w1 b a :=
  ⟨fun i hi => (hb.cell (p := ⟨b, i, none⟩) (World.block_lt_of_cell? _ _ (h.cell i hi))).trans (h.cell i hi)⟩

set_option maxHeartbeats 2000000 in
set_option maxRecDepth 100000 in
theorem sentinels_calls (a : Nat → Addr) (w : World) (h : SentsAll w a) :
    Calls Tryd.prog 78 #[] w fun e w' => ∃ b, e = .returned (.slice (some ⟨b, 0, none⟩) 18 18) ∧ Listed w' b a ∧ Below w.heap.size w w' := by
  have c0 : w.cell? ⟨2, 0, none⟩ = some (.iface 163 (.pointer (some (a 0)))) := h.cell 0 (by decide)
  have c1 : w.cell? ⟨0, 0, none⟩ = some (.iface 163 (.pointer (some (a 1)))) := h.cell 1 (by decide)
  have c2 : w.cell? ⟨3, 0, none⟩ = some (.iface 163 (.pointer (some (a 2)))) := h.cell 2 (by decide)
  have c3 : w.cell? ⟨5, 0, none⟩ = some (.iface 163 (.pointer (some (a 3)))) := h.cell 3 (by decide)
  have c4 : w.cell? ⟨6, 0, none⟩ = some (.iface 163 (.pointer (some (a 4)))) := h.cell 4 (by decide)
  have c5 : w.cell? ⟨7, 0, none⟩ = some (.iface 163 (.pointer (some (a 5)))) := h.cell 5 (by decide)
  have c6 : w.cell? ⟨1, 0, none⟩ = some (.iface 163 (.pointer (some (a 6)))) := h.cell 6 (by decide)
  have c7 : w.cell? ⟨8, 0, none⟩ = some (.iface 163 (.pointer (some (a 7)))) := h.cell 7 (by decide)
  have c8 : w.cell? ⟨4, 0, none⟩ = some (.iface 163 (.pointer (some (a 8)))) := h.cell 8 (by decide)
  have c9 : w.cell? ⟨9, 0, none⟩ = some (.iface 163 (.pointer (some (a 9)))) := h.cell 9 (by decide)
  have c10 : w.cell? ⟨10, 0, none⟩ = some (.iface 163 (.pointer (some (a 10)))) := h.cell 10 (by decide)
  have c11 : w.cell? ⟨11, 0, none⟩ = some (.iface 163 (.pointer (some (a 11)))) := h.cell 11 (by decide)
  have c12 : w.cell? ⟨12, 0, none⟩ = some (.iface 163 (.pointer (some (a 12)))) := h.cell 12 (by decide)
  have c13 : w.cell? ⟨13, 0, none⟩ = some (.iface 163 (.pointer (some (a 13)))) := h.cell 13 (by decide)
  have c14 : w.cell? ⟨14, 0, none⟩ = some (.iface 163 (.pointer (some (a 14)))) := h.cell 14 (by decide)
  have c15 : w.cell? ⟨15, 0, none⟩ = some (.iface 163 (.pointer (some (a 15)))) := h.cell 15 (by decide)
  have c16 : w.cell? ⟨16, 0, none⟩ = some (.iface 163 (.pointer (some (a 16)))) := h.cell 16 (by decide)
  have c17 : w.cell? ⟨17, 0, none⟩ = some (.iface 163 (.pointer (some (a 17)))) := h.cell 17 (by decide)
  clear h

  go_enter Tryd.func78, Tryd.ntmps78
  go_wp2
  go_ret
  refine ⟨_, rfl, ⟨fun i hi => ?_⟩, by repeat (first | exact Below.refl _ _ | apply pw_below_drewN | apply below_drew1 | apply below_alloc)⟩
  rcases (by omega : i = 0 ∨ i = 1 ∨ i = 2 ∨ i = 3 ∨ i = 4 ∨ i = 5 ∨ i = 6 ∨ i = 7 ∨ i = 8 ∨ i = 9 ∨ i = 10 ∨ i = 11 ∨ i = 12 ∨ i = 13 ∨ i = 14 ∨ i = 15 ∨ i = 16 ∨ i = 17) with rfl | rfl | rfl | rfl | rfl | rfl | rfl | rfl | rfl | rfl | rfl | rfl | rfl | rfl | rfl | rfl | rfl | rfl <;> simp [*]

set_option maxHeartbeats 1000000 in
set_option maxRecDepth 100000 in
theorem sentinel_calls (a : Nat → Addr) (k : Nat) (hk : k < 18) (w : World) (h : SentsAll w a) :
    Calls Tryd.prog 60 #[.iface 163 (.pointer (some (a k)))] w fun e w' => e = .returned (.int .i64 (101 + (k : Int))) ∧ Below w.heap.size w w' := by
  have HS := Aside0.mk h
  obtain ⟨x, hx⟩ : ∃ x, a k = x := ⟨_, rfl⟩
  have HX := Aside0.mk hx
  rw [hx]
  clear h hx
  go_enter Tryd.func60, Tryd.ntmps60
  go_wp2_with fail
  refine (sentinels_calls a _ HS.out).mono ?_
  rintro e w1 ⟨b, rfl, hl, hB⟩
  have HL := Aside0.mk hl
  have HB := Aside0.mk hB
  clear hl hB
  go_wp2_with fail
  go_loopg [4] (k + 1) (fun kq v4 w' => ∃ (i : Nat), v4 = .int .i64 (i : Int) ∧ Aside0 (kq + i = k + 1 ∧ i ≤ k) ∧ Aside0 (Listed w' b a) ∧ Aside0 (Below w.heap.size w w'))
  case atStart => exact ⟨0, rfl, ⟨by omega⟩, HL, HB⟩
  case round =>
    clear HB HL
    obtain ⟨i, rfl, HI, HL, HB⟩ := hrel
    have hik := HI.out
    have h18 : (i : Int) < 18 := by omega
    have h0 : (0 : Int) ≤ (i : Int) := by omega
    clear hik
    have hc := HL.out.cell i (by omega)
    by_cases e : i = k
    · subst e
      rw [HX.out] at hc
      go_wp2_with fail
      refine (alike_same _ _).mono ?_
      rintro e w2 ⟨rfl, hB⟩
      replace HB := Aside0.mk (below_step HB.out hB)
      clear hB hc
      go_wp2_with fail
      go_ret
      exact ⟨by simp, HB.out⟩
    · obtain ⟨y, hy⟩ : ∃ y, a i = y := ⟨_, rfl⟩
      have HY := Aside0.mk hy
      rw [hy] at hc
      clear hy
      have HE := Aside0.mk e
      clear e
      go_wp2_with fail
      have hal := alike_other a k i hk (by omega) (fun h => HE.out h.symm) wr (HS.out.below HB.out)
      rw [HX.out, HY.out] at hal
      refine hal.mono ?_
      clear hal
      rintro e w2 ⟨rfl, hB⟩
      replace HL := Aside0.mk (HL.out.below hB)
      replace HB := Aside0.mk (below_step HB.out hB)
      clear hB hc
      go_wp2_with fail
      go_roundg (gk - 1)
      case measure => have := HI.out; omega
      case rel => exact ⟨i + 1, by simp, ⟨by have := HI.out; have := HE.out; omega⟩, HL, HB⟩

theorem sentinel_at (a : Nat → Addr) (k : Nat) (hk : k < 18) (x : Addr) (hx : a k = x) (w : World) (h : SentsAll w a) :
    Calls Tryd.prog 60 #[.iface 163 (.pointer (some x))] w fun e w' => e = .returned (.int .i64 (101 + (k : Int))) ∧ Below w.heap.size w w' := by
  subst hx; exact sentinel_calls a k hk w h

theorem as_no (v : Value) (w : World) : (Instr.typeAssert (.iface 163 v) 34 80 true).run Tryd.prog w = .ok (.tuple #[.pointer none, .bool false]) w := by kernel_rfl
theorem as_yes (v : Value) (w : World) : (Instr.typeAssert (.iface 80 v) 34 80 true).run Tryd.prog w = .ok (.tuple #[v, .bool true]) w := by kernel_rfl
attribute [local go_sem] as_no as_yes

/-- A fault as data. -/
abbrev flt (c : Int) (p : Bool) (q : Int) : Value := .agg #[.int .i64 c, .bool p, .int .i64 q]

set_option maxHeartbeats 1000000 in
set_option maxRecDepth 100000 in
theorem bare_calls (c : Int) (w : World) : Calls Tryd.prog 38 #[.int .i64 c] w fun e w' => e = .returned (flt c false 0) ∧ Below w.heap.size w w' := by
  go_enter Tryd.func38, Tryd.ntmps38
  go_wp2
  exact bodyPost_ret (v := flt c false 0) (by simp [results, Tryd.results38, go_sem]) rfl ⟨rfl, by repeat (first | exact Below.refl _ _ | apply pw_below_drewN | apply below_drew1 | apply below_alloc)⟩

set_option maxHeartbeats 1000000 in
set_option maxRecDepth 100000 in
theorem none_calls (w : World) : Calls Tryd.prog 41 #[] w fun e w' => e = .returned (flt 0 false 0) ∧ Below w.heap.size w w' := by
  go_enter Tryd.func41, Tryd.ntmps41
  go_wp2
  exact bodyPost_ret (v := flt 0 false 0) (by simp [results, Tryd.results41, go_sem]) rfl ⟨rfl, by repeat (first | exact Below.refl _ _ | apply pw_below_drewN | apply below_drew1 | apply below_alloc)⟩

set_option maxHeartbeats 1000000 in
set_option maxRecDepth 100000 in
theorem samefault_calls (c d : Int) (p q : Bool) (m n : Int) (w : World) : Calls Tryd.prog 39 #[flt c p m, flt d q n] w fun e w' => e = .returned (.bool (c == d && p == q && m == n)) ∧ Below w.heap.size w w' := by
  have hcd : (c == d) = true ∨ (c == d) = false := by cases (c == d) <;> simp
  have hpq : (p == q) = true ∨ (p == q) = false := by cases (p == q) <;> simp
  have hmn : (m == n) = true ∨ (m == n) = false := by cases (m == n) <;> simp
  rcases hcd with h1 | h1
  · rcases hpq with h2 | h2
    · rw [h1, h2]
      go_enter Tryd.func39, Tryd.ntmps39
      go_wp2
      go_ret
      exact ⟨by simp, by repeat (first | exact Below.refl _ _ | apply pw_below_drewN | apply below_drew1 | apply below_alloc)⟩
    · rw [h1, h2]
      go_enter Tryd.func39, Tryd.ntmps39
      go_wp2
      go_ret
      exact ⟨by simp, by repeat (first | exact Below.refl _ _ | apply pw_below_drewN | apply below_drew1 | apply below_alloc)⟩
  · rw [h1]
    go_enter Tryd.func39, Tryd.ntmps39
    go_wp2
    go_ret
    exact ⟨by simp, by repeat (first | exact Below.refl _ _ | apply pw_below_drewN | apply below_drew1 | apply below_alloc)⟩

set_option maxHeartbeats 1000000 in
set_option maxRecDepth 100000 in
theorem fault_nil (w : World) : Calls Tryd.prog 40 #[.nilIface] w fun e w' => e = .returned (flt 0 false 0) ∧ Below w.heap.size w w' := by
  go_enter Tryd.func40, Tryd.ntmps40
  go_wp2_with fail
  refine (none_calls _).mono ?_
  rintro e w1 ⟨rfl, hb⟩
  obtain ⟨hc, hf⟩ : (∀ o, w1.cell? ⟨w.heap.size, o, none⟩ = (w.alloc (.cells #[.int .i64 0, .bool false, .int .i64 0] 47)).cell? ⟨w.heap.size, o, none⟩) ∧ (∀ o, w1.frozen? ⟨w.heap.size, o, none⟩ = (w.alloc (.cells #[.int .i64 0, .bool false, .int .i64 0] 47)).frozen? ⟨w.heap.size, o, none⟩) :=
    ⟨fun o => hb.cell (p := ⟨w.heap.size, o, none⟩) (by simp), fun o => hb.frozen (p := ⟨w.heap.size, o, none⟩) (by simp)⟩
  have HB := Aside0.mk (below_step (below_alloc (Below.refl _ _) _) hb)
  clear hb
  go_wp2_with fail
  exact bodyPost_ret (v := flt 0 false 0) (by simp [results, Tryd.results40, go_sem, hc]) rfl ⟨rfl, ((HB.out.setCell (Nat.le_refl _) _).setCell (Nat.le_refl _) _).setCell (Nat.le_refl _) _⟩

set_option maxHeartbeats 1000000 in
set_option maxRecDepth 100000 in
theorem fault_sent (a : Nat → Addr) (k : Nat) (hk : k < 18) (w : World) (h : SentsAll w a) :
    Calls Tryd.prog 40 #[.iface 163 (.pointer (some (a k)))] w fun e w' => e = .returned (flt (101 + (k : Int)) false 0) ∧ Below w.heap.size w w' := by
  have HS := Aside0.mk h
  obtain ⟨x, hx⟩ : ∃ x, a k = x := ⟨_, rfl⟩
  have HX := Aside0.mk hx
  rw [hx]
  clear h hx
  go_enter Tryd.func40, Tryd.ntmps40
  go_wp2_with fail
  refine (sentinel_at a k hk x HX.out _ (by exact HS.out.below (below_alloc (Below.refl _ _) _))).mono ?_
  rintro e w1 ⟨rfl, hB⟩
  have HB := Aside0.mk (below_step (below_alloc (Below.refl _ _) _) hB)
  have hz := hB.size
  have hc1 : ∀ o, w1.cell? ⟨w.heap.size, o, none⟩ = (w.alloc (.cells #[.int .i64 0, .bool false, .int .i64 0] 47)).cell? ⟨w.heap.size, o, none⟩ := fun o => hB.cell (p := ⟨w.heap.size, o, none⟩) (by simp)
  have hf1 : ∀ o, w1.frozen? ⟨w.heap.size, o, none⟩ = (w.alloc (.cells #[.int .i64 0, .bool false, .int .i64 0] 47)).frozen? ⟨w.heap.size, o, none⟩ := fun o => hB.frozen (p := ⟨w.heap.size, o, none⟩) (by simp)
  have hlt : w.heap.size < w1.heap.size := by
    have := hB.size
    simp at this
    omega
  clear hB hz
  go_wp2_with fail
  refine (bare_calls _ _).mono ?_
  rintro e w2 ⟨rfl, hB⟩
  replace HB := Aside0.mk (below_step HB.out hB)
  have hc : ∀ o, w2.cell? ⟨w.heap.size, o, none⟩ = (w.alloc (.cells #[.int .i64 0, .bool false, .int .i64 0] 47)).cell? ⟨w.heap.size, o, none⟩ := fun o => (hB.cell (p := ⟨w.heap.size, o, none⟩) hlt).trans (hc1 o)
  have hf : ∀ o, w2.frozen? ⟨w.heap.size, o, none⟩ = (w.alloc (.cells #[.int .i64 0, .bool false, .int .i64 0] 47)).frozen? ⟨w.heap.size, o, none⟩ := fun o => (hB.frozen (p := ⟨w.heap.size, o, none⟩) hlt).trans (hf1 o)
  clear hB hc1 hf1 hlt
  go_wp2_with fail
  exact bodyPost_ret (v := flt (101 + (k : Int)) false 0) (by simp [results, Tryd.results40, go_sem, hc]) rfl ⟨rfl, ((HB.out.setCell (Nat.le_refl _) _).setCell (Nat.le_refl _) _).setCell (Nat.le_refl _) _⟩

/-- An error that is none, or one of api's. -/
def EV (a : Nat → Addr) (v : Value) (code : Int) : Prop := (v = .nilIface ∧ code = 0) ∨ ∃ k, k < 18 ∧ v = .iface 163 (.pointer (some (a k))) ∧ code = 101 + (k : Int)

theorem fault_calls (a : Nat → Addr) (v : Value) (code : Int) (hv : EV a v code) (w : World) (h : SentsAll w a) :
    Calls Tryd.prog 40 #[v] w fun e w' => e = .returned (flt code false 0) ∧ Below w.heap.size w w' := by
  rcases hv with ⟨rfl, rfl⟩ | ⟨k, hk, rfl, rfl⟩
  · exact fault_nil w
  · exact fault_sent a k hk w h

set_option maxHeartbeats 1000000 in
set_option maxRecDepth 100000 in
theorem same_calls (a : Nat → Addr) (v : Value) (code : Int) (hv : EV a v code) (d : Int) (q : Bool) (n : Int) (w : World) (h : SentsAll w a) :
    Calls Tryd.prog 17 #[v, flt d q n] w fun e w' => e = .returned (.bool (code == d && false == q && (0 : Int) == n)) ∧ Below w.heap.size w w' := by
  have HS := Aside0.mk h
  have HV := Aside0.mk hv
  clear h hv
  go_enter Tryd.func17, Tryd.ntmps17
  go_wp2_with fail
  go_region_held3 (fun w' => w'.cell? ⟨w.heap.size, 0, none⟩ = some (.int .i64 d) ∧ w'.cell? ⟨w.heap.size, 1, none⟩ = some (.bool q) ∧ w'.cell? ⟨w.heap.size, 2, none⟩ = some (.int .i64 n))
    (refine ⟨?_, ?_, ?_⟩ <;> (first | go_keep | (rw [hk]; go_keep) | (rw [hk2]; first | go_keep | (rw [hk]; go_keep))))
    (first | (go_at_call 40; refine (fault_calls a v code HV.out _ (by exact HS.out.below (by repeat (first | exact Below.refl _ _ | apply below_drew1 | apply below_alloc)))).mono ?_; rintro e w1 ⟨rfl, hb⟩; have hk : ∀ o, w1.cell? ⟨w.heap.size, o, none⟩ = _ := fun o => hb.cell (p := ⟨w.heap.size, o, none⟩) (by simp)) | (go_at_call 39; refine (samefault_calls _ _ _ _ _ _ _).mono ?_; rintro e w2 ⟨rfl, hb2⟩; have hk2 : ∀ o, w2.cell? ⟨w.heap.size, o, none⟩ = _ := fun o => hb2.cell (p := ⟨w.heap.size, o, none⟩) (by have := hb.size; simp at this; simp; omega)))
  clear hk hk2
  go_wp2
  go_ret
  exact ⟨by simp, below_step (below_step (by repeat (first | exact Below.refl _ _ | apply below_drew1 | apply below_alloc)) hb) hb2⟩

set_option maxHeartbeats 1000000 in
set_option maxRecDepth 100000 in
theorem is_calls (a : Nat → Addr) (v : Value) (code : Int) (hv : EV a v code) (c : Int) (w : World) (h : SentsAll w a) :
    Calls Tryd.prog 16 #[v, .int .i64 c] w fun e w' => e = .returned (.bool (code == c)) ∧ Below w.heap.size w w' := by
  have HS := Aside0.mk h
  have HV := Aside0.mk hv
  clear h hv
  go_enter Tryd.func16, Tryd.ntmps16
  go_wp2_with fail
  refine (bare_calls c _).mono ?_
  rintro e w1 ⟨rfl, hB⟩
  have HB := Aside0.mk hB
  clear hB
  go_wp2_with fail
  refine (same_calls a v code HV.out c false 0 _ (by exact HS.out.below HB.out)).mono ?_
  rintro e w2 ⟨rfl, hB⟩
  replace HB := Aside0.mk (below_step HB.out hB)
  clear hB
  go_wp2_with fail
  go_ret
  exact ⟨by simp, HB.out⟩

end Go.Proofs.YtlgpkbhajloajaaDoor.See
