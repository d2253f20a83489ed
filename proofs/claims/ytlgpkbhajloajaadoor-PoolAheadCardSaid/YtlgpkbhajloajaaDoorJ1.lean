/- Joined texts: Mem, Clone, Cell, Page, PageB, PageR, PageL, SeeAt. -/
import Derived.Test.YtlgpkbhajloajaaDoorSee
import Derived.WalkSpells
import Derived.Deep.RegionLaw
/- Memory: what stays as it was, slices that are read. No condition. -/
namespace Go.Proofs.YtlgpkbhajloajaaDoor.Mem
open Go.RowKit Go.Proofs.YtlgpkbhajloajaaDoorW.PrintWords Go.Proofs.YtlgpkbhajloajaaDoorW.PrintLast Go.Proofs.YtlgpkbhajloajaaDoorW.PrintMore
open Go.Proofs.YtlgpkbhajloajaaDoor.See
set_option linter.unusedVariables false
set_option linter.unusedSimpArgs false

/-- The lesser, the greater of two, not parted by the walk. -/
def imin (x y : Int) : Int := if y < x then y else x
def imax (x y : Int) : Int := if x < y then y else x
theorem min2_imin (k k' : IntKind) (x y : Int) : Builtin.min2 (.int k x) (.int k' y) = pure (.int k (imin x y)) := by rw [min2_int]; rfl
theorem max2_imax (k k' : IntKind) (x y : Int) : Builtin.max2 (.int k x) (.int k' y) = pure (.int k (imax x y)) := by rw [max2_int]; rfl
theorem imin_eq (x y : Int) : imin x y = min x y := by unfold imin; omega
theorem imax_eq (x y : Int) : imax x y = max x y := by unfold imax; omega

/-- The kind of a block. -/
def tag (w : World) (k : Nat) : Nat := match w.heap[k]? with
  | some (.cells _ e _) => e
  | _ => 0

theorem tag_of {w : World} {k : Nat} {c : Array Value} {e : Nat} {f : Nat × Nat} (h : w.heap[k]? = some (.cells c e f)) : tag w k = e := by unfold tag; rw [h]
theorem tag_eq {w w' : World} {k : Nat} (h : w'.heap[k]? = w.heap[k]?) : tag w' k = tag w k := by unfold tag; rw [h]

/-- Only blocks of M whose kinds are of T may have turned. -/
structure Frm (T : List Nat) (M : Nat → Prop) (w w' : World) : Prop where
  os : w'.os = w.os
  tape : w'.tape = w.tape
  output : w'.output = w.output
  size : w.heap.size ≤ w'.heap.size
  block : ∀ k, k < w.heap.size → (M k → tag w k ∉ T) → w'.heap[k]? = w.heap[k]?

/-- A region, and all blocks made since. -/
def Gr (M : Nat → Prop) (w w' : World) : Nat → Prop := fun k => M k ∨ (w.heap.size ≤ k ∧ k < w'.heap.size)

theorem Gr.old {M : Nat → Prop} {w w' : World} {k : Nat} (h : M k) : Gr M w w' k := .inl h
theorem Gr.new {M : Nat → Prop} {w w' : World} {k : Nat} (h : w.heap.size ≤ k) (h' : k < w'.heap.size) : Gr M w w' k := .inr ⟨h, h'⟩
theorem Gr.trans {M : Nat → Prop} {w w1 w2 : World} (h1 : w.heap.size ≤ w1.heap.size) (h2 : w1.heap.size ≤ w2.heap.size) {k : Nat} (h : Gr (Gr M w w1) w1 w2 k) : Gr M w w2 k := by
  rcases h with (h | ⟨ha, hb⟩) | ⟨ha, hb⟩
  · exact .inl h
  · exact .inr ⟨ha, by omega⟩
  · exact .inr ⟨by omega, hb⟩
theorem Gr.grow {M : Nat → Prop} {w w1 w2 : World} (h2 : w1.heap.size ≤ w2.heap.size) {k : Nat} (h : Gr M w w1 k) : Gr M w w2 k := by
  rcases h with h | ⟨ha, hb⟩
  · exact .inl h
  · exact .inr ⟨ha, by omega⟩

theorem Frm.refl (T : List Nat) (M : Nat → Prop) (w : World) : Frm T M w w := ⟨rfl, rfl, rfl, Nat.le_refl _, fun _ _ _ => rfl⟩

theorem Frm.of_below {T : List Nat} {M : Nat → Prop} {w w' : World} (h : Below w.heap.size w w') : Frm T M w w' :=
  ⟨h.os, h.tape, h.output, h.size, fun k hk _ => h.block k hk⟩

theorem Frm.below {T : List Nat} {M : Nat → Prop} {w w' : World} {B : Nat} (h : Frm T M w w') (hM : ∀ k, M k → B ≤ k) (hB : B ≤ w.heap.size) : Below B w w' :=
  ⟨h.os, h.tape, h.output, h.size, fun k hk => h.block k (by omega) (fun hm => by have := hM k hm; omega)⟩

theorem Frm.wide {T T' : List Nat} {M M' : Nat → Prop} {w w' : World} (h : Frm T M w w') (hT : ∀ t ∈ T, t ∈ T') (hM : ∀ k, k < w.heap.size → M k → M' k) : Frm T' M' w w' :=
  ⟨h.os, h.tape, h.output, h.size, fun k hk hn => h.block k hk (fun hm ht => hn (hM k hk hm) (hT _ ht))⟩

theorem Frm.trans {T : List Nat} {M : Nat → Prop} {w w1 w2 : World} (h : Frm T M w w1) (k : Frm T M w1 w2) : Frm T M w w2 :=
  ⟨k.os.trans h.os, k.tape.trans h.tape, k.output.trans h.output, Nat.le_trans h.size k.size, fun i hi hn => by
    have e := h.block i hi hn
    exact (k.block i (Nat.lt_of_lt_of_le hi h.size) (fun hm => by rw [tag_eq e]; exact hn hm)).trans e⟩

theorem Frm.transG {T : List Nat} {M : Nat → Prop} {w w1 w2 : World} (h : Frm T M w w1) (k : Frm T (Gr M w w1) w1 w2) : Frm T M w w2 :=
  ⟨k.os.trans h.os, k.tape.trans h.tape, k.output.trans h.output, Nat.le_trans h.size k.size, fun i hi hn => by
    have e := h.block i hi hn
    exact (k.block i (Nat.lt_of_lt_of_le hi h.size) (fun hm => by
      rw [tag_eq e]
      rcases hm with hm | ⟨hm, _⟩
      · exact hn hm
      · omega)).trans e⟩

theorem Frm.step {T : List Nat} {M : Nat → Prop} {w w1 w2 : World} (h : Frm T M w w1) (k : Below w1.heap.size w1 w2) : Frm T M w w2 := h.trans (.of_below k)
theorem Frm.drew {T : List Nat} {M : Nat → Prop} {w w1 : World} (h : Frm T M w w1) : Frm T M w w1.drew := ⟨h.os, h.tape, h.output, h.size, h.block⟩
theorem Frm.drewN {T : List Nat} {M : Nat → Prop} {w w1 : World} (h : Frm T M w w1) (n : Nat) : Frm T M w (w1.drewN n) := ⟨h.os, h.tape, h.output, h.size, h.block⟩
theorem Frm.alloc {T : List Nat} {M : Nat → Prop} {w w1 : World} (h : Frm T M w w1) (o : Obj) : Frm T M w (w1.alloc o) := h.step (Below.alloc (.refl _ _) (Nat.le_refl _) o)
theorem Frm.set {T : List Nat} {M : Nat → Prop} {w w1 : World} (h : Frm T M w w1) {a : Addr} (ha : a.block < w.heap.size → M a.block ∧ tag w a.block ∈ T) (v : Value) : Frm T M w (w1.setCell a v) :=
  ⟨h.os, h.tape, h.output, by simpa [World.setCell] using h.size, fun k hk hn => by
    rw [Below.heap_setCell _ _ _ _ (fun e => by subst e; exact hn (ha hk).1 (ha hk).2)]
    exact h.block k hk hn⟩
theorem Frm.grown {T : List Nat} {M : Nat → Prop} {w w1 w2 : World} {row : Option Nat} (h : Frm T M w w1) (hg : w1.grownBy w2 row) (hr : ∀ k, row = some k → k < w.heap.size → M k ∧ tag w k ∈ T) : Frm T M w w2 :=
  ⟨hg.os.trans h.os, hg.tape.trans h.tape, hg.output.trans h.output, Nat.le_trans h.size hg.size, fun k hk hn => by
    rw [hg.block k (Nat.lt_of_lt_of_le hk h.size) (fun e => hn (hr k e.symm hk).1 (hr k e.symm hk).2)]
    exact h.block k hk hn⟩

theorem heap_lt {w : World} {b : Nat} {o : Obj} (h : w.heap[b]? = some o) : b < w.heap.size := row_lt h

/-- A block stays. -/
theorem Frm.at {T : List Nat} {M : Nat → Prop} {w w' : World} (h : Frm T M w w') {k : Nat} {c : Array Value} {e : Nat} {f : Nat × Nat} (hk : w.heap[k]? = some (.cells c e f)) (he : e ∉ T ∨ ¬ M k) : w'.heap[k]? = some (.cells c e f) := by
  rw [h.block k (heap_lt hk) (fun hm => by
    rw [tag_of hk]
    rcases he with he | he
    · exact he
    · exact absurd hm he)]
  exact hk

theorem grown_blk {W W2 W3 : World} {v : Value} {b : Nat} (hg : W2.grownBy W3 v.ownBlock) (hw : W2.heap[b]? = W.heap[b]?) (hlt : b < W2.heap.size) (hne : ∀ k, v.ownBlock = some k → k ≠ b) : W3.heap[b]? = W.heap[b]? :=
  (hg.block b hlt (fun e => hne b e.symm rfl)).trans hw

/-- A slice that is read: its elements' cells. -/
def Rd (w : World) (e size : Nat) (v : Value) (n : Nat) (xs : List Value) : Prop :=
  xs.length = n * size ∧ n ≤ 1000000 ∧
  ((v = .slice none 0 0 ∧ n = 0) ∨
   ∃ g off cap cur fz, v = .slice (some ⟨g, off, none⟩) n cap ∧ w.heap[g]? = some (.cells cur e fz) ∧ n ≤ cap ∧ cap ≤ maxLen ∧ off + n * size ≤ cur.size ∧ (cur.toList.drop off).take (n * size) = xs)

theorem Rd.nil (w : World) (e size : Nat) : Rd w e size (.slice none 0 0) 0 [] := ⟨by simp, by omega, .inl ⟨rfl, rfl⟩⟩

theorem Rd.move {w w' : World} {e size n : Nat} {v : Value} {xs : List Value} (h : Rd w e size v n xs) (hb : ∀ k, v.ownBlock = some k → w'.heap[k]? = w.heap[k]?) : Rd w' e size v n xs := by
  obtain ⟨h1, hm, h2⟩ := h
  refine ⟨h1, hm, ?_⟩
  rcases h2 with h2 | ⟨g, off, cap, cur, fz, rfl, hh, r⟩
  · exact .inl h2
  · exact .inr ⟨g, off, cap, cur, fz, rfl, (hb g rfl).trans hh, r⟩

theorem Rd.block {w : World} {e size n : Nat} {v : Value} {xs : List Value} (h : Rd w e size v n xs) {k : Nat} (hk : v.ownBlock = some k) : ∃ c fz, w.heap[k]? = some (.cells c e fz) := by
  rcases h.2.2 with ⟨rfl, _⟩ | ⟨g, off, cap, cur, fz, rfl, hh, r⟩
  · simp [Value.ownBlock] at hk
  · have : g = k := by simpa [Value.ownBlock] using hk
    subst this
    exact ⟨cur, fz, hh⟩

theorem Rd.below {w w' : World} {e size n : Nat} {v : Value} {xs : List Value} (h : Rd w e size v n xs) (hb : Below w.heap.size w w') : Rd w' e size v n xs :=
  h.move fun k hk => by obtain ⟨c, fz, hc⟩ := h.block hk; exact hb.block _ (heap_lt hc)

theorem Rd.frm {T : List Nat} {M : Nat → Prop} {w w' : World} {e size n : Nat} {v : Value} {xs : List Value} (h : Rd w e size v n xs) (hf : Frm T M w w') (he : e ∉ T) : Rd w' e size v n xs :=
  h.move fun k hk => by obtain ⟨c, fz, hc⟩ := h.block hk; rw [hf.at hc (.inl he), hc]

theorem Rd.frmN {T : List Nat} {M : Nat → Prop} {w w' : World} {e size n : Nat} {v : Value} {xs : List Value} (h : Rd w e size v n xs) (hf : Frm T M w w') (he : ∀ k, v.ownBlock = some k → ¬ M k) : Rd w' e size v n xs :=
  h.move fun k hk => by obtain ⟨c, fz, hc⟩ := h.block hk; rw [hf.at hc (.inr (he k hk)), hc]

theorem Rd.of_own {w : World} {base e size n : Nat} {v : Value} {xs : List Value} (h : w.ownsRow base e size v n xs) (hn : n ≤ 1000000) : Rd w e size v n xs := by
  obtain ⟨h1, h2⟩ := h
  refine ⟨h1, hn, ?_⟩
  rcases h2 with h2 | ⟨g, cap, cur, rfl, hg, hh, hnc, hcm, hsz, htk⟩
  · exact .inl h2
  · exact .inr ⟨g, 0, cap, cur, _, rfl, hh, hnc, hcm, by rw [hsz, Nat.zero_add]; exact Nat.mul_le_mul_right _ hnc, by simpa using htk⟩

/-- What a slice that is read looks like. -/
theorem Rd.form {w : World} {e size n : Nat} {v : Value} {xs : List Value} (h : Rd w e size v n xs) : ∃ A cap, v = .slice A n cap ∧ (A = none → n = 0 ∧ cap = 0) ∧ (∀ ad, A = some ad → (∀ j u, xs[j]? = some u → w.cell? (ad.add j) = some u) ∧ True ∧ ad.block < w.heap.size) := by
  rcases h.2.2 with ⟨rfl, rfl⟩ | ⟨g, off, cap, cur, fz, rfl, hh, hnc, hcm, hsz, htk⟩
  · exact ⟨none, 0, rfl, fun _ => ⟨rfl, rfl⟩, fun ad h => by cases h⟩
  · refine ⟨_, cap, rfl, fun h => (by cases h), fun ad he => ?_⟩
    obtain rfl : (⟨g, off, none⟩ : Addr) = ad := Option.some.inj he
    refine ⟨fun j u hj => ?_, trivial, heap_lt hh⟩
    rw [← htk] at hj
    rw [List.getElem?_take] at hj
    split at hj
    · rw [List.getElem?_drop] at hj
      rw [add_at]
      simp only [World.cell?, hh]
      simpa using hj
    · cases hj

theorem Rd.len {w : World} {e size n : Nat} {v : Value} {xs : List Value} (h : Rd w e size v n xs) : xs.length = n * size := h.1

/-- The same slice, further behind. -/
theorem Rd.sub {w : World} {e size n : Nat} {g off cap : Nat} {xs : List Value} (h : Rd w e size (.slice (some ⟨g, off, none⟩) n cap) n xs) (lo hi cap' : Nat) (h1 : lo ≤ hi) (h2 : hi ≤ n) (h3 : hi - lo ≤ cap') (h4 : cap' ≤ maxLen) :
    Rd w e size (.slice (some ⟨g, off + lo * size, none⟩) (hi - lo) cap') (hi - lo) ((xs.drop (lo * size)).take ((hi - lo) * size)) := by
  obtain ⟨hl, hm, h⟩ := h
  rcases h with ⟨he, _⟩ | ⟨g', off', cap2, cur, fz, he, hh, hnc, hcm, hsz, htk⟩
  · cases he
  · injection he with e1 e2 e3
    injection e1 with e1
    injection e1 with e4 e5
    subst e4 e5 e3
    have hb : lo * size + (hi - lo) * size ≤ n * size := by rw [← Nat.add_mul]; exact Nat.mul_le_mul_right _ (by omega)
    refine ⟨by rw [List.length_take, List.length_drop, hl]; omega, by omega, .inr ⟨g, off + lo * size, cap', cur, fz, rfl, hh, h3, h4, by omega, ?_⟩⟩
    rw [← htk, List.drop_take, List.take_take, List.drop_drop, Nat.min_eq_left (by omega)]

/-- Bytes that are read. -/
def BS (w : World) (v : Value) (bs : List Int) : Prop := Rd w 5 1 v bs.length (bs.map (.int .u8))

theorem BS.below {w w' : World} {v : Value} {bs : List Int} (h : BS w v bs) (hb : Below w.heap.size w w') : BS w' v bs := Rd.below h hb
theorem BS.frm {T : List Nat} {M : Nat → Prop} {w w' : World} {v : Value} {bs : List Int} (h : BS w v bs) (hf : Frm T M w w') (he : 5 ∉ T) : BS w' v bs := Rd.frm h hf he
theorem BS.nil (w : World) : BS w (.slice none 0 0) [] := Rd.nil _ _ _

/-- Numbers that are bytes. -/
def IsB (bs : List Int) : Prop := ∀ x ∈ bs, 0 ≤ x ∧ x < 256

theorem IsB.nil : IsB [] := fun x h => by simp at h
theorem IsB.at {bs : List Int} (h : IsB bs) {i : Nat} {x : Int} (hx : bs[i]? = some x) : 0 ≤ x ∧ x < 256 := h x (List.mem_of_getElem? hx)
theorem IsB.append {a b : List Int} (ha : IsB a) (hb : IsB b) : IsB (a ++ b) := fun x h => by
  rcases List.mem_append.1 h with h | h
  · exact ha x h
  · exact hb x h
theorem IsB.take {a : List Int} (ha : IsB a) (n : Nat) : IsB (a.take n) := fun x h => ha x (List.mem_of_mem_take h)
theorem IsB.drop {a : List Int} (ha : IsB a) (n : Nat) : IsB (a.drop n) := fun x h => ha x (List.mem_of_mem_drop h)
theorem IsB.zeros (n : Nat) : IsB (List.replicate n 0) := fun x h => by
  obtain ⟨_, rfl⟩ := List.mem_replicate.1 h; omega

/-- An owned row, moved. -/
theorem ow_move {w w' : World} {base e size n : Nat} {v : Value} {xs : List Value} (h : w.ownsRow base e size v n xs) (hb : ∀ k, v.ownBlock = some k → w'.heap[k]? = w.heap[k]?) : w'.ownsRow base e size v n xs := by
  obtain ⟨h1, h2⟩ := h
  refine ⟨h1, ?_⟩
  rcases h2 with h2 | ⟨g, cap, cur, rfl, hg, hh, r⟩
  · exact .inl h2
  · exact .inr ⟨g, cap, cur, rfl, hg, (hb g rfl).trans hh, r⟩

theorem ow_block {w : World} {base e size n : Nat} {v : Value} {xs : List Value} (h : w.ownsRow base e size v n xs) {k : Nat} (hk : v.ownBlock = some k) : base ≤ k ∧ ∃ c, w.heap[k]? = some (.cells c e (0, 0)) := by
  rcases h.2 with ⟨rfl, _⟩ | ⟨g, cap, cur, rfl, hg, hh, r⟩
  · simp [Value.ownBlock] at hk
  · have : g = k := by simpa [Value.ownBlock] using hk
    subst this
    exact ⟨hg, cur, hh⟩

theorem ow_below {w w' : World} {base e size n : Nat} {v : Value} {xs : List Value} (h : w.ownsRow base e size v n xs) (hb : Below w.heap.size w w') : w'.ownsRow base e size v n xs :=
  ow_move h fun k hk => by obtain ⟨_, c, hc⟩ := ow_block h hk; exact hb.block _ (heap_lt hc)

theorem ow_frm {T : List Nat} {M : Nat → Prop} {w w' : World} {base e size n : Nat} {v : Value} {xs : List Value} (h : w.ownsRow base e size v n xs) (hf : Frm T M w w') (he : e ∉ T) : w'.ownsRow base e size v n xs :=
  ow_move h fun k hk => by obtain ⟨_, c, hc⟩ := ow_block h hk; rw [hf.at hc (.inl he), hc]

theorem ow_base {w : World} {base base' e size n : Nat} {v : Value} {xs : List Value} (h : w.ownsRow base e size v n xs) (hb : base' ≤ base) : w.ownsRow base' e size v n xs := by
  obtain ⟨h1, h2⟩ := h
  refine ⟨h1, ?_⟩
  rcases h2 with h2 | ⟨g, cap, cur, rfl, hg, r⟩
  · exact .inl h2
  · exact .inr ⟨g, cap, cur, rfl, by omega, r⟩

theorem ow_slice {w : World} {base e size n : Nat} {v : Value} {xs : List Value} (h : w.ownsRow base e size v n xs) : ∃ A cap, v = .slice A n cap ∧ (A = none → n = 0 ∧ cap = 0) := by
  rcases h.2 with ⟨rfl, rfl⟩ | ⟨g, cap, cur, rfl, _⟩
  · exact ⟨none, 0, rfl, fun _ => ⟨rfl, rfl⟩⟩
  · exact ⟨_, cap, rfl, fun h => by cases h⟩

end Go.Proofs.YtlgpkbhajloajaaDoor.Mem
/- The contracts of slices.Clone: the same cells in memory of its own. No condition. -/
namespace Go.Proofs.YtlgpkbhajloajaaDoor.Clone
open Go.RowKit Go.Proofs.YtlgpkbhajloajaaDoorW.PrintWords Go.Proofs.YtlgpkbhajloajaaDoorW.PrintLast Go.Proofs.YtlgpkbhajloajaaDoorW.PrintMore
open Go.Proofs.YtlgpkbhajloajaaDoor.See Go.Proofs.YtlgpkbhajloajaaDoor.Mem
set_option linter.unusedVariables false
set_option linter.unusedSimpArgs false

theorem info_bytes : (Tryd.prog.info? 5).map (fun i => (i.zero, i.size, i.bytes)) = some (some (.int .u8 0), 1, 1) := by kernel_rfl

set_option maxHeartbeats 1000000 in
set_option maxRecDepth 100000 in
theorem clone_bytes (v : Value) (n : Nat) (xs : List Value) (w : World) (h : Rd w 5 1 v n xs) (h1 : ∀ u ∈ xs, u.oneCell' = true) :
    Calls Tryd.prog 34 #[v] w fun e w' => ∃ v', e = .returned v' ∧ w'.ownsRow w.heap.size 5 1 v' n xs ∧ Below w.heap.size w w' := by
  obtain ⟨i0, hi, hzz⟩ := Option.map_eq_some_iff.1 info_bytes
  simp only [Prod.mk.injEq] at hzz
  obtain ⟨hz0, hz1, hz2⟩ := hzz
  obtain ⟨A, c, rfl, hA, hr⟩ := h.form
  have hlen := h.1
  have hmax := h.2.1
  cases A with
  | none =>
    obtain ⟨rfl, rfl⟩ := hA rfl
    obtain rfl : xs = [] := List.eq_nil_of_length_eq_zero (by simpa using hlen)
    have hnil := fun W : World => Lib.run_eql_slice_nil (P := Tryd.prog) W 41 5 none 0 0 0 0 Tryd.underlying41
    clear hA hr hlen h h1 hmax
    go_enter Tryd.func34, Tryd.ntmps34
    go_wp2
    go_ret
    exact ⟨_, rfl, World.ownsRow_nil _ _ _ _, Below.refl _ _⟩
  | some ad =>
    obtain ⟨hcell, _, hlt⟩ := hr ad rfl
    have hnil := fun W : World => Lib.run_eql_slice_nil (P := Tryd.prog) W 41 5 (some ad) n c 0 0 Tryd.underlying41
    have HC := Aside0.mk hcell
    have H1 := Aside0.mk h1
    have HL := Aside0.mk hlen
    have HM := Aside0.mk hmax
    have HLT := Aside0.mk hlt
    clear hcell h1 hlen hmax hlt hA hr h
    go_enter Tryd.func34, Tryd.ntmps34
    go_wp2_with (at_builtin; refine wpList_append_own_at _ (by rfl) _ _ 41 (by rfl) w.heap.size 5 i0 (.int .u8 0) 1 1 Tryd.underlying41 hi hz0 hz1 hz2 rfl (by decide) _ 0 [] (by rfl) ?own ad n c xs (by rfl) HL.out ?news H1.out ?h63 ?hby ?base ?_)
    case own => exact ⟨rfl, .inr ⟨w.heap.size, 0, #[], rfl, Nat.le_refl _, (by show (w.heap.push _)[w.heap.size]? = _; exact Array.getElem?_push_size), by omega, by decide, rfl, rfl⟩⟩
    case news =>
      intro j u hu
      rw [World.cell?_alloc_lt _ _ _ (by have := HLT.out; unfold Addr.add; split <;> simpa using this)]
      exact HC.out j u hu
    case h63 => have := HM.out; unfold maxLen; omega
    case hby => have := HM.out; omega
    case base => simp
    intro v' w1 hown hg _ hat
    have HB := Aside0.mk (pw_below_grown (below_alloc (Below.refl w.heap.size w) (Obj.cells #[] 5)) _ (below_size (below_alloc (Below.refl _ _) _)) hg (by intro k hk; injection hk with hk; exact Nat.le_of_eq hk))
    have HO := Aside0.mk hown
    clear hown hg hat
    obtain ⟨A', c', rfl, hA'⟩ := ow_slice HO.out
    clear hA'
    go_wp2
    go_ret
    exact ⟨_, rfl, by simpa using HO.out, HB.out⟩

theorem info_entries : (Tryd.prog.info? 109).map (fun i => (i.zero, i.size, i.bytes)) = some (some (.agg #[.int .i64 0, .int .i64 0]), 2, 16) := by kernel_rfl

set_option maxHeartbeats 1000000 in
set_option maxRecDepth 100000 in
theorem clone_entries (v : Value) (n : Nat) (xs : List Value) (w : World) (h : Rd w 109 2 v n xs) (h1 : ∀ u ∈ xs, u.oneCell' = true) :
    Calls Tryd.prog 56 #[v] w fun e w' => ∃ v', e = .returned v' ∧ w'.ownsRow w.heap.size 109 2 v' n xs ∧ Below w.heap.size w w' := by
  obtain ⟨i0, hi, hzz⟩ := Option.map_eq_some_iff.1 info_entries
  simp only [Prod.mk.injEq] at hzz
  obtain ⟨hz0, hz1, hz2⟩ := hzz
  obtain ⟨A, c, rfl, hA, hr⟩ := h.form
  have hlen := h.1
  have hmax := h.2.1
  cases A with
  | none =>
    obtain ⟨rfl, rfl⟩ := hA rfl
    obtain rfl : xs = [] := List.eq_nil_of_length_eq_zero (by simpa using hlen)
    have hnil := fun W : World => Lib.run_eql_slice_nil (P := Tryd.prog) W 30 109 none 0 0 0 0 Tryd.underlying30
    clear hA hr hlen h h1 hmax
    go_enter Tryd.func56, Tryd.ntmps56
    go_wp2
    go_ret
    exact ⟨_, rfl, World.ownsRow_nil _ _ _ _, Below.refl _ _⟩
  | some ad =>
    obtain ⟨hcell, _, hlt⟩ := hr ad rfl
    have hnil := fun W : World => Lib.run_eql_slice_nil (P := Tryd.prog) W 30 109 (some ad) n c 0 0 Tryd.underlying30
    have HC := Aside0.mk hcell
    have H1 := Aside0.mk h1
    have HL := Aside0.mk hlen
    have HM := Aside0.mk hmax
    have HLT := Aside0.mk hlt
    clear hcell h1 hlen hmax hlt hA hr h
    go_enter Tryd.func56, Tryd.ntmps56
    go_wp2_with (at_builtin; refine wpList_append_own_at _ (by rfl) _ _ 30 (by rfl) w.heap.size 109 i0 (.agg #[.int .i64 0, .int .i64 0]) 2 16 Tryd.underlying30 hi hz0 hz1 hz2 rfl (by decide) _ 0 [] (by rfl) ?own ad n c xs (by rfl) HL.out ?news H1.out ?h63 ?hby ?base ?_)
    case own => exact ⟨rfl, .inr ⟨w.heap.size, 0, #[], rfl, Nat.le_refl _, (by show (w.heap.push _)[w.heap.size]? = _; exact Array.getElem?_push_size), by omega, by decide, rfl, rfl⟩⟩
    case news =>
      intro j u hu
      rw [World.cell?_alloc_lt _ _ _ (by have := HLT.out; unfold Addr.add; split <;> simpa using this)]
      exact HC.out j u hu
    case h63 => have := HM.out; unfold maxLen; omega
    case hby => have := HM.out; omega
    case base => simp
    intro v' w1 hown hg _ hat
    have HB := Aside0.mk (pw_below_grown (below_alloc (Below.refl w.heap.size w) (Obj.cells #[] 109)) _ (below_size (below_alloc (Below.refl _ _) _)) hg (by intro k hk; injection hk with hk; exact Nat.le_of_eq hk))
    have HO := Aside0.mk hown
    clear hown hg hat
    obtain ⟨A', c', rfl, hA'⟩ := ow_slice HO.out
    clear hA'
    go_wp2
    go_ret
    exact ⟨_, rfl, by simpa using HO.out, HB.out⟩

theorem info_dirties : (Tryd.prog.info? 57).map (fun i => (i.zero, i.size, i.bytes)) = some (some (.agg #[.int .i64 0, .int .i64 0]), 2, 16) := by kernel_rfl

set_option maxHeartbeats 1000000 in
set_option maxRecDepth 100000 in
theorem clone_dirties (v : Value) (n : Nat) (xs : List Value) (w : World) (h : Rd w 57 2 v n xs) (h1 : ∀ u ∈ xs, u.oneCell' = true) :
    Calls Tryd.prog 66 #[v] w fun e w' => ∃ v', e = .returned v' ∧ w'.ownsRow w.heap.size 57 2 v' n xs ∧ Below w.heap.size w w' := by
  obtain ⟨i0, hi, hzz⟩ := Option.map_eq_some_iff.1 info_dirties
  simp only [Prod.mk.injEq] at hzz
  obtain ⟨hz0, hz1, hz2⟩ := hzz
  obtain ⟨A, c, rfl, hA, hr⟩ := h.form
  have hlen := h.1
  have hmax := h.2.1
  cases A with
  | none =>
    obtain ⟨rfl, rfl⟩ := hA rfl
    obtain rfl : xs = [] := List.eq_nil_of_length_eq_zero (by simpa using hlen)
    have hnil := fun W : World => Lib.run_eql_slice_nil (P := Tryd.prog) W 54 57 none 0 0 0 0 Tryd.underlying54
    clear hA hr hlen h h1 hmax
    go_enter Tryd.func66, Tryd.ntmps66
    go_wp2
    go_ret
    exact ⟨_, rfl, World.ownsRow_nil _ _ _ _, Below.refl _ _⟩
  | some ad =>
    obtain ⟨hcell, _, hlt⟩ := hr ad rfl
    have hnil := fun W : World => Lib.run_eql_slice_nil (P := Tryd.prog) W 54 57 (some ad) n c 0 0 Tryd.underlying54
    have HC := Aside0.mk hcell
    have H1 := Aside0.mk h1
    have HL := Aside0.mk hlen
    have HM := Aside0.mk hmax
    have HLT := Aside0.mk hlt
    clear hcell h1 hlen hmax hlt hA hr h
    go_enter Tryd.func66, Tryd.ntmps66
    go_wp2_with (at_builtin; refine wpList_append_own_at _ (by rfl) _ _ 54 (by rfl) w.heap.size 57 i0 (.agg #[.int .i64 0, .int .i64 0]) 2 16 Tryd.underlying54 hi hz0 hz1 hz2 rfl (by decide) _ 0 [] (by rfl) ?own ad n c xs (by rfl) HL.out ?news H1.out ?h63 ?hby ?base ?_)
    case own => exact ⟨rfl, .inr ⟨w.heap.size, 0, #[], rfl, Nat.le_refl _, (by show (w.heap.push _)[w.heap.size]? = _; exact Array.getElem?_push_size), by omega, by decide, rfl, rfl⟩⟩
    case news =>
      intro j u hu
      rw [World.cell?_alloc_lt _ _ _ (by have := HLT.out; unfold Addr.add; split <;> simpa using this)]
      exact HC.out j u hu
    case h63 => have := HM.out; unfold maxLen; omega
    case hby => have := HM.out; omega
    case base => simp
    intro v' w1 hown hg _ hat
    have HB := Aside0.mk (pw_below_grown (below_alloc (Below.refl w.heap.size w) (Obj.cells #[] 57)) _ (below_size (below_alloc (Below.refl _ _) _)) hg (by intro k hk; injection hk with hk; exact Nat.le_of_eq hk))
    have HO := Aside0.mk hown
    clear hown hg hat
    obtain ⟨A', c', rfl, hA'⟩ := ow_slice HO.out
    clear hA'
    go_wp2
    go_ret
    exact ⟨_, rfl, by simpa using HO.out, HB.out⟩

end Go.Proofs.YtlgpkbhajloajaaDoor.Clone
/- The contracts of package cell: numbers in bytes. No condition. -/
namespace Go.Proofs.YtlgpkbhajloajaaDoor.Cell
open Go.RowKit Go.Proofs.YtlgpkbhajloajaaDoorW.PrintWords Go.Proofs.YtlgpkbhajloajaaDoorW.PrintLast Go.Proofs.YtlgpkbhajloajaaDoorW.PrintMore
open Go.Proofs.YtlgpkbhajloajaaDoor.See Go.Proofs.YtlgpkbhajloajaaDoor.Mem Go.Proofs.YtlgpkbhajloajaaDoor.Clone
attribute [local go_sem] max2_int min2_int max_two min_two
set_option linter.unusedVariables false
set_option linter.unusedSimpArgs false

/-- Bytes as a number, the least first. -/
def le : List Int → Int
  | [] => 0
  | x :: xs => x + 256 * le xs

theorem le_append (xs ys : List Int) : le (xs ++ ys) = le xs + 256 ^ xs.length * le ys := by
  induction xs with
  | nil => simp [le]
  | cons x xs ih =>
    simp only [List.cons_append, le, ih, List.length_cons, Int.pow_succ]
    rw [Int.mul_add, Int.mul_comm (256 ^ xs.length) 256, ← Int.mul_assoc]
    omega

theorem le_bound : ∀ xs : List Int, IsB xs → 0 ≤ le xs ∧ le xs < 256 ^ xs.length
  | [], _ => by simp [le]
  | x :: xs, h => by
    obtain ⟨h1, h2⟩ := le_bound xs fun y hy => h y (List.mem_cons_of_mem _ hy)
    obtain ⟨h3, h4⟩ := h x (List.mem_cons_self ..)
    simp only [le, List.length_cons, Int.pow_succ]
    omega

theorem wrap64u {n : Int} (h0 : 0 ≤ n) (h1 : n < 2 ^ 64) : IntKind.u64.wrap n = n := by
  simp only [IntKind.wrap, IntKind.bits, IntKind.signed, Bool.false_and]
  rw [if_neg (by simp)]
  exact Int.emod_eq_of_lt h0 h1

theorem pow_8 (d : Nat) : (2 : Int) ^ (8 * d) = 256 ^ d := by rw [Int.pow_mul]; rfl
theorem npow_8 (d : Nat) : (2 : Nat) ^ (8 * d) = 256 ^ d := by rw [Nat.pow_mul]

set_option maxRecDepth 100000 in
theorem or_step (j x : Int) (d : Nat) (hd : d < 8) (hj0 : 0 ≤ j) (hj : j < 256 ^ d) (hx0 : 0 ≤ x) (hx : x < 256) : bits .or .u64 j (IntKind.u64.wrap (x * 2 ^ (8 * d))) = j + 256 ^ d * x := by
  obtain ⟨a, rfl⟩ := Int.eq_ofNat_of_zero_le hj0
  obtain ⟨b, rfl⟩ := Int.eq_ofNat_of_zero_le hx0
  have ha : a < 2 ^ (8 * d) := by rw [npow_8]; exact_mod_cast hj
  have hb : b < 256 := by exact_mod_cast hx
  have hp : 2 ^ (8 * d) * 256 ≤ 2 ^ 64 := by
    have : (256 : Nat) = 2 ^ 8 := rfl
    rw [this, ← Nat.pow_add]
    exact Nat.pow_le_pow_right (by decide) (by omega)
  have hbp : 2 ^ (8 * d) * b < 2 ^ 64 := Nat.lt_of_lt_of_le (Nat.mul_lt_mul_of_pos_left hb (Nat.two_pow_pos _)) hp
  have hap : a < 2 ^ 64 := Nat.lt_of_lt_of_le ha (by omega)
  have e : (b : Int) * 2 ^ (8 * d) = ((2 ^ (8 * d) * b : Nat) : Int) := by rw [Int.natCast_mul, Int.mul_comm]; simp
  rw [e, wrap64u (Int.natCast_nonneg _) (by exact_mod_cast hbp)]
  rw [(bits_nat .u64 64 (by decide) (fun n h0 h1 => wrap64u h0 h1) a _ hap hbp).2]
  rw [Nat.or_comm, ← Nat.two_pow_add_eq_or_of_lt ha b, npow_8]
  simp
  omega

theorem le_snoc {bs : List Int} {d : Nat} {x : Int} (h : bs[d]? = some x) : le (bs.take (d + 1)) = le (bs.take d) + 256 ^ d * x := by
  have hl : d < bs.length := (List.getElem?_eq_some_iff.1 h).1
  have hx : bs[d] = x := (List.getElem?_eq_some_iff.1 h).2
  rw [List.take_succ_eq_append_getElem hl, le_append, hx, List.length_take, Nat.min_eq_left (by omega)]
  simp [le]

set_option maxHeartbeats 1000000 in
set_option maxRecDepth 100000 in
theorem places_calls (A : Option Addr) (n c : Nat) (a s : Int) (h0 : 0 ≤ a) (h1 : 1 ≤ s) (h8 : s ≤ 8) (hn : a + s ≤ n) (hb : a ≤ 1000000) (w : World) :
    Calls Tryd.prog 70 #[.slice A n c, .int .i64 a, .int .i64 s] w fun e w' => e = .returned (.tuple #[.int .i64 a, .int .i64 (a + s)]) ∧ w = w' := by
  obtain ⟨m, hm⟩ : ∃ m : Int, (n : Int) = m := ⟨_, rfl⟩
  have hn' : a + s ≤ m := by omega
  have e1 : max a 0 = a := by omega
  have e2 : max s 1 = s := by omega
  have e3 : min s 8 = s := by omega
  have e4 : min (a + s) m = a + s := by omega
  go_enter Tryd.func70, Tryd.ntmps70
  go_wp2
  exact bodyPost_ret (v := .tuple #[.int .i64 a, .int .i64 (a + s)]) (by simp [results, Tryd.results70, go_sem]) rfl ⟨rfl, rfl⟩

set_option maxHeartbeats 1000000 in
set_option maxRecDepth 100000 in
theorem get_calls (v : Value) (bs : List Int) (a s : Int) (h0 : 0 ≤ a) (h1 : 1 ≤ s) (h8 : s ≤ 8) (hn : a + s ≤ bs.length) (hB : IsB bs) (w : World) (hb : BS w v bs) :
    Calls Tryd.prog 50 #[v, .int .i64 a, .int .i64 s] w fun e w' => e = .returned (.int .u64 (le ((bs.drop a.toNat).take s.toNat))) ∧ w = w' := by
  obtain ⟨A, c, rfl, hA, hr⟩ := Rd.form hb
  obtain ⟨ad, rfl⟩ : ∃ ad, A = some ad := by
    cases A with
    | none => have := (hA rfl).1; omega
    | some ad => exact ⟨ad, rfl⟩
  obtain ⟨hcell, _, hlt⟩ := hr ad rfl
  have HC := Aside0.mk hcell
  have HB := Aside0.mk hB
  have hm := hb.2.1
  obtain ⟨n, hnn⟩ : ∃ n, bs.length = n := ⟨_, rfl⟩
  have HN := Aside0.mk hnn
  rw [hnn] at hn hm ⊢
  have hd1 : decide (a ≥ (n : Int)) = false := decide_eq_false (by omega)
  have hd2 : decide (a < -8) = false := decide_eq_false (by omega)
  clear hb hA hr hcell hB hnn hlt
  go_enter Tryd.func50, Tryd.ntmps50
  go_wp2_with fail
  refine (places_calls (some ad) n c a s h0 h1 h8 hn (by omega) _).mono ?_
  rintro e w' ⟨rfl, rfl⟩
  go_wp2_with fail
  go_loopg [7, 10] 9 (fun kq v7 v10 w' => ∃ (i j : Int), v7 = .int .u64 j ∧ v10 = .int .i64 i ∧ Aside0 (a ≤ i ∧ i ≤ a + s ∧ (kq : Int) = 9 - (i - a) ∧ j = le ((bs.drop a.toNat).take (i - a).toNat)) ∧ w' = w)
  case atStart => exact ⟨a, 0, rfl, rfl, ⟨by omega, by omega, by omega, by simp [le]⟩, rfl⟩
  case round =>
    obtain ⟨i, j, rfl, rfl, HI, rfl⟩ := hrel
    by_cases hlt : i < a + s
    · have h1 := HI.out
      have h2 : i.toNat < bs.length := by have := HN.out; omega
      obtain ⟨x, hx⟩ : ∃ x, bs[i.toNat]? = some x := ⟨_, List.getElem?_eq_getElem h2⟩
      have hc : wr.cell? (ad.add i.toNat) = some (.int .u8 x) := HC.out _ _ (by rw [List.getElem?_map, hx]; rfl)
      obtain ⟨hx0, hx1⟩ := HB.out.at hx
      have hi0 : 0 ≤ i := by omega
      have hin : i < (n : Int) := by omega
      have hia : 0 ≤ i - a := by omega
      have hib : i - a < 8 := by omega
      have HX := Aside0.mk hx
      clear h1 h2 hx
      go_wp2_with fail
      go_roundg (gk - 1)
      case measure => have := HI.out; omega
      case rel =>
        obtain ⟨g1, g2, g3, g4⟩ := HI.out
        refine ⟨i + 1, _, rfl, rfl, ⟨by omega, by omega, by omega, ?_⟩, rfl⟩
        have e8 : (8 * (i - a)).toNat = 8 * (i - a).toNat := by omega
        have ed : (bs.drop a.toNat)[(i - a).toNat]? = some x := by
          rw [List.getElem?_drop, show a.toNat + (i - a).toNat = i.toNat from by omega]; exact HX.out
        obtain ⟨b1, b2⟩ := le_bound ((bs.drop a.toNat).take (i - a).toNat) ((HB.out.drop _).take _)
        have hl : ((bs.drop a.toNat).take (i - a).toNat).length = (i - a).toNat := by
          have := (List.getElem?_eq_some_iff.1 ed).1
          rw [List.length_take]; omega
        rw [hl] at b2
        rw [e8, show (i + 1 - a).toNat = (i - a).toNat + 1 from by omega, le_snoc ed, g4, or_step _ _ _ (by omega) b1 b2 hx0 hx1]
    · have HI2 := Aside0.mk (show i = a + s by have := HI.out; omega)
      have hn2 : decide (i < a + s) = false := decide_eq_false hlt
      go_wp2_with fail
      go_ret
      obtain ⟨g1, g2, g3, g4⟩ := HI.out
      rw [show (i - a).toNat = s.toNat from by have := HI2.out; omega] at g4
      exact ⟨by simp [g4], rfl⟩
/-- A number as so many bytes, the least first. -/
def leB : Nat → Int → List Int
  | 0, _ => []
  | d + 1, n => n % 256 :: leB d (n / 256)

theorem leB_length : ∀ (d : Nat) (n : Int), (leB d n).length = d
  | 0, _ => rfl
  | d + 1, n => by simp [leB, leB_length d]

theorem leB_isB : ∀ (d : Nat) (n : Int), IsB (leB d n)
  | 0, _ => IsB.nil
  | d + 1, n => fun x h => by
    rcases List.mem_cons.1 h with rfl | h
    · omega
    · exact leB_isB d _ x h

theorem emod_step (n p : Int) (hp : 0 < p) : n % 256 + 256 * (n / 256 % p) = n % (p * 256) := by
  have h1 : n = 256 * (n / 256) + n % 256 := (Int.mul_ediv_add_emod n 256).symm
  have h2 : n / 256 = p * (n / 256 / p) + n / 256 % p := (Int.mul_ediv_add_emod _ p).symm
  have h3 := Int.emod_nonneg (n / 256) (show p ≠ 0 by omega)
  have h4 := Int.emod_lt_of_pos (n / 256) hp
  have e : n = (n % 256 + 256 * (n / 256 % p)) + (p * 256) * (n / 256 / p) := by
    have : 256 * (p * (n / 256 / p)) = (p * 256) * (n / 256 / p) := by rw [← Int.mul_assoc, Int.mul_comm 256 p]
    omega
  have e2 : n % (p * 256) = (n % 256 + 256 * (n / 256 % p)) % (p * 256) := by
    conv => lhs; rw [e]
    exact Int.add_mul_emod_self_left _ _ _
  rw [e2]
  exact (Int.emod_eq_of_lt (by omega) (by omega)).symm

theorem le_leB : ∀ (d : Nat) (n : Int), le (leB d n) = n % 256 ^ d
  | 0, n => by simp [leB, le]
  | d + 1, n => by
    simp only [leB, le, le_leB d]
    rw [Int.pow_succ]
    exact emod_step n _ (Int.pow_pos (by omega))

theorem leB_le : ∀ (xs : List Int), IsB xs → leB xs.length (le xs) = xs
  | [], _ => rfl
  | x :: xs, h => by
    obtain ⟨h0, h1⟩ := h x (List.mem_cons_self ..)
    simp only [List.length_cons, leB, le]
    rw [show (x + 256 * le xs) % 256 = x from by omega, show (x + 256 * le xs) / 256 = le xs from by omega, leB_le xs fun y hy => h y (List.mem_cons_of_mem _ hy)]

theorem leB_snoc : ∀ (d : Nat) (n : Int), leB (d + 1) n = leB d n ++ [n / 256 ^ d % 256]
  | 0, n => by simp [leB]
  | d + 1, n => by
    rw [leB, leB_snoc d (n / 256), leB]
    simp only [List.cons_append, List.cons.injEq, true_and]
    rw [Int.ediv_ediv_of_nonneg (by omega), Int.pow_succ, Int.mul_comm]

/-- Bytes with a number in them. -/
def putL (bs : List Int) (a d : Nat) (n : Int) : List Int := bs.take a ++ (leB d n ++ bs.drop (a + d))

theorem putL_zero (bs : List Int) (a : Nat) (n : Int) : putL bs a 0 n = bs := by simp [putL, leB]
theorem putL_length (bs : List Int) (a d : Nat) (n : Int) (h : a + d ≤ bs.length) : (putL bs a d n).length = bs.length := by
  simp only [putL, List.length_append, List.length_take, List.length_drop, leB_length]; omega
theorem putL_isB {bs : List Int} (h : IsB bs) (a d : Nat) (n : Int) : IsB (putL bs a d n) := (h.take a).append ((leB_isB d n).append (h.drop _))

theorem putL_step (bs : List Int) (a d : Nat) (n : Int) (h : a + d < bs.length) : (putL bs a d n).set (a + d) (n / 256 ^ d % 256) = putL bs a (d + 1) n := by
  unfold putL
  have h1 : (bs.take a).length = a := by rw [List.length_take]; omega
  rw [List.set_append_right _ _ (by omega), h1, List.set_append_right _ _ (by rw [leB_length]; omega), leB_length, leB_snoc]
  rw [show a + d - a - d = 0 from by omega, List.drop_eq_getElem_cons h, List.set_cons_zero]
  simp [List.append_assoc, Nat.add_assoc]

set_option maxHeartbeats 1000000 in
set_option maxRecDepth 100000 in
theorem put_calls (v : Value) (bs : List Int) (a s m : Int) (h0 : 0 ≤ a) (h1 : 1 ≤ s) (h8 : s ≤ 8) (hn : a + s ≤ bs.length) (hm0 : 0 ≤ m) (w : World) (hb : BS w v bs) :
    Calls Tryd.prog 68 #[v, .int .i64 a, .int .i64 s, .int .u64 m] w fun e w' => ∃ v', e = .returned v' ∧ BS w' v' (putL bs a.toNat s.toNat m) ∧ Below w.heap.size w w' := by
  obtain ⟨A, c, rfl, hA, hr⟩ := Rd.form hb
  have hm := hb.2.1
  have HBS := Aside0.mk hb
  obtain ⟨n, hnn⟩ : ∃ n, bs.length = n := ⟨_, rfl⟩
  have HN := Aside0.mk hnn
  clear hb hA hr
  rw [hnn] at hn hm ⊢
  have hd1 : decide (a ≥ (n : Int)) = false := decide_eq_false (by omega)
  have hd2 : decide (a < -8) = false := decide_eq_false (by omega)
  clear hnn
  go_enter Tryd.func68, Tryd.ntmps68
  go_wp2_with fail
  have hcl := clone_bytes (.slice A n c) n (bs.map (.int .u8)) w (by have := HBS.out; unfold BS at this; rw [HN.out] at this; exact this) (fun u hu => by obtain ⟨x, _, rfl⟩ := List.mem_map.1 hu; rfl)
  refine hcl.mono ?_
  clear hcl
  rintro e w1 ⟨v1, rfl, ho, hB⟩
  obtain ⟨g, c1, rfl, hg, _⟩ := ho.form (by omega)
  have HO := Aside0.mk ho
  have HB := Aside0.mk hB
  have HG := Aside0.mk hg
  clear ho hB hg
  go_wp2_with fail
  refine (places_calls A n c a s h0 h1 h8 hn (by omega) _).mono ?_
  rintro e w' ⟨rfl, rfl⟩
  go_wp2_with fail
  go_loopg [12] 9 (fun kq v12 w' => ∃ (i : Int), v12 = .int .i64 i ∧ Aside0 (a ≤ i ∧ i ≤ a + s ∧ (kq : Int) = 9 - (i - a)) ∧ Aside0 (w'.ownsRow w.heap.size 5 1 (.slice (some ⟨g, 0, none⟩) n c1) n ((putL bs a.toNat (i - a).toNat m).map (.int .u8))) ∧ Aside0 (Below w.heap.size w w'))
  case atStart => exact ⟨a, rfl, ⟨by omega, by omega, by omega⟩, ⟨by rw [show (a - a).toNat = 0 from by omega, putL_zero]; exact HO.out⟩, HB⟩
  case round =>
    obtain ⟨i, rfl, HI, HR, HB1⟩ := hrel
    by_cases hlt : i < a + s
    · have g1 := HI.out
      obtain ⟨x, hx⟩ : ∃ x, (putL bs a.toNat (i - a).toNat m)[i.toNat]? = some x := ⟨_, List.getElem?_eq_getElem (by rw [putL_length _ _ _ _ (by have := HN.out; omega)]; have := HN.out; omega)⟩
      have hc : wr.cell? ⟨g, i.toNat, none⟩ = some (.int .u8 x) := by rw [HR.out.cellAt _ (by omega), List.getElem?_map, hx]; rfl
      have hf : wr.frozen? ⟨g, i.toNat, none⟩ = false := HR.out.frozenAt _
      have hi0 : 0 ≤ i := by omega
      have hin : i < (n : Int) := by omega
      have hia : 0 ≤ i - a := by omega
      have hib : i - a < 8 := by omega
      clear g1 hx
      go_wp2_with fail
      go_roundg (gk - 1)
      case measure => have := HI.out; omega
      case rel =>
        have g1 := HI.out
        refine ⟨i + 1, rfl, ⟨by omega, by omega, by omega⟩, ⟨?_⟩, ⟨HB1.out.setCell HG.out _⟩⟩
        have e8 : (8 * (i - a)).toNat = 8 * (i - a).toNat := by omega
        have := (HR.out.stored i.toNat (.int .u8 (m / 2 ^ (8 * (i - a)).toNat % 256))).1
        rw [← List.map_set, e8, pow_8, show i.toNat = a.toNat + (i - a).toNat from by omega, putL_step _ _ _ _ (by have := HN.out; omega)] at this
        rw [e8, pow_8, show (i + 1 - a).toNat = (i - a).toNat + 1 from by omega]
        rw [show i.toNat = a.toNat + (i - a).toNat from by omega]
        exact this
    · have HI2 := Aside0.mk (show i = a + s by have := HI.out; omega)
      have hn2 : decide (i < a + s) = false := decide_eq_false hlt
      go_wp2_with fail
      go_ret
      refine ⟨_, rfl, ?_, HB1.out⟩
      have := HR.out
      rw [show (i - a).toNat = s.toNat from by have := HI2.out; omega] at this
      unfold BS
      rw [putL_length _ _ _ _ (by have := HN.out; omega), HN.out]
      exact Rd.of_own this hm

end Go.Proofs.YtlgpkbhajloajaaDoor.Cell
/- The contracts of package page. No condition but that api's errors are what their text says. -/
namespace Go.Proofs.YtlgpkbhajloajaaDoor.Page
open Go.RowKit Go.Proofs.YtlgpkbhajloajaaDoorW.PrintWords Go.Proofs.YtlgpkbhajloajaaDoorW.PrintLast Go.Proofs.YtlgpkbhajloajaaDoorW.PrintMore
open Go.Proofs.YtlgpkbhajloajaaDoor.See Go.Proofs.YtlgpkbhajloajaaDoor.Mem Go.Proofs.YtlgpkbhajloajaaDoor.Clone Go.Proofs.YtlgpkbhajloajaaDoor.Cell
attribute [local go_sem] max2_int min2_int max_two min_two
set_option linter.unusedVariables false
set_option linter.unusedSimpArgs false

/-- An error that is none, or one of api's. -/
def errv (a : Nat → Addr) : Option Nat → Value
  | none => .nilIface
  | some k => .iface 163 (.pointer (some (a k)))

/-- Pairs in memory. -/
def cells2 (es : List (Int × Int)) : List Value := es.flatMap fun e => [.int .i64 e.1, .int .i64 e.2]

theorem cells2_len (es : List (Int × Int)) : (cells2 es).length = es.length * 2 := by
  induction es with
  | nil => rfl
  | cons e es ih => unfold cells2 at ih ⊢; simp [List.flatMap_cons, ih]; omega

theorem cells2_append (es fs : List (Int × Int)) : cells2 (es ++ fs) = cells2 es ++ cells2 fs := by unfold cells2; rw [List.flatMap_append]
theorem cells2_snoc (es : List (Int × Int)) (e : Int × Int) : cells2 (es ++ [e]) = cells2 es ++ [.int .i64 e.1, .int .i64 e.2] := by rw [cells2_append]; rfl
theorem cells2_one : ∀ (es : List (Int × Int)), ∀ u ∈ cells2 es, u.oneCell' = true := fun es u hu => by
  obtain ⟨e, _, h⟩ := List.mem_flatMap.1 hu
  simp at h
  rcases h with rfl | rfl <;> rfl

theorem cells2_at : ∀ (es : List (Int × Int)) (i : Nat) (e : Int × Int), es[i]? = some e → (cells2 es)[i * 2]? = some (.int .i64 e.1) ∧ (cells2 es)[i * 2 + 1]? = some (.int .i64 e.2)
  | [], i, t, h => by simp at h
  | s :: ps, 0, t, h => by
    simp at h; subst h
    exact ⟨by simp [cells2, List.flatMap_cons], by simp [cells2, List.flatMap_cons]⟩
  | s :: ps, i + 1, t, h => by
    have := cells2_at ps i t (by simpa using h)
    have e : cells2 (s :: ps) = [.int .i64 s.1, .int .i64 s.2] ++ cells2 ps := by simp [cells2, List.flatMap_cons]
    rw [e, List.getElem?_append_right (by simp; omega), List.getElem?_append_right (by simp; omega)]
    simp only [List.length_cons, List.length_nil]
    rw [show (i + 1) * 2 - (0 + 1 + 1) = i * 2 from by omega, show (i + 1) * 2 + 1 - (0 + 1 + 1) = i * 2 + 1 from by omega]
    exact this

/-- A slice of pairs. -/
def P2 (w : World) (t : Nat) (v : Value) (es : List (Int × Int)) : Prop := w.ownsRow 0 t 2 v es.length (cells2 es) ∧ es.length ≤ 100000

theorem P2.nil (w : World) (t : Nat) : P2 w t (.slice none 0 0) [] := ⟨⟨rfl, .inl ⟨rfl, rfl⟩⟩, by simp⟩
theorem P2.below {w w' : World} {t : Nat} {v : Value} {es : List (Int × Int)} (h : P2 w t v es) (hb : Below w.heap.size w w') : P2 w' t v es := ⟨ow_below h.1 hb, h.2⟩
theorem P2.frm {T : List Nat} {M : Nat → Prop} {w w' : World} {t : Nat} {v : Value} {es : List (Int × Int)} (h : P2 w t v es) (hf : Frm T M w w') (ht : t ∉ T) : P2 w' t v es := ⟨ow_frm h.1 hf ht, h.2⟩
theorem P2.rd {w : World} {t : Nat} {v : Value} {es : List (Int × Int)} (h : P2 w t v es) : Rd w t 2 v es.length (cells2 es) := Rd.of_own h.1 (by have := h.2; omega)

/-- What is read of it. -/
theorem P2.form {w : World} {t : Nat} {v : Value} {es : List (Int × Int)} (h : P2 w t v es) : (v = .slice none 0 0 ∧ es = []) ∨
    ∃ g cap, v = .slice (some ⟨g, 0, none⟩) es.length cap ∧ (∀ (i : Nat) (e : Int × Int), es[i]? = some e → w.cell? ⟨g, i * 2, none⟩ = some (.int .i64 e.1) ∧ w.cell? ⟨g, i * 2 + 1, none⟩ = some (.int .i64 e.2)) ∧ g < w.heap.size := by
  rcases h.1.2 with ⟨hv, h0⟩ | ⟨g, cap, cur, hv, hg, hh, hnc, hcm, hsz, htk⟩
  · exact .inl ⟨hv, List.eq_nil_of_length_eq_zero h0⟩
  · refine .inr ⟨g, cap, hv, fun i e hi => ?_, heap_lt hh⟩
    have hlt : i < es.length := (List.getElem?_eq_some_iff.1 hi).1
    obtain ⟨c0, c1⟩ := cells2_at es i e hi
    rw [← htk, List.getElem?_take, if_pos (by omega)] at c0
    rw [← htk, List.getElem?_take, if_pos (by omega)] at c1
    constructor
    · simp only [World.cell?, hh]; simpa using c0
    · simp only [World.cell?, hh]; simpa using c1

/-- A page's keys are what they may be, at one place. -/
def keyOk (es : List (Int × Int)) (k : Nat) : Bool :=
  match es[k]? with
  | none => true
  | some e => decide (0 ≤ e.1) && decide (e.1 < 1048576) && (k == 0 || match es[k - 1]? with | none => true | some p => decide (p.1 < e.1))

/-- What page.Check says. -/
def headOk (lsn : Int) (n : Nat) : Bool := decide (0 ≤ lsn) && decide (lsn ≤ 1073741824) && decide (n ≤ 20) && !(decide (0 < n) && decide (lsn = 0))
def pageOk (lsn : Int) (es : List (Int × Int)) : Bool := headOk lsn es.length && (List.range es.length).all (keyOk es)

theorem pageOk_false {lsn : Int} {es : List (Int × Int)} {k : Nat} (hk : k < es.length) (h : keyOk es k = false) : pageOk lsn es = false := by
  unfold pageOk
  rw [Bool.and_eq_false_iff]
  right
  rw [List.all_eq_false]
  exact ⟨k, List.mem_range.2 hk, by simp [h]⟩
theorem pageOk_true {lsn : Int} {es : List (Int × Int)} (h1 : headOk lsn es.length = true) (h : ∀ k, k < es.length → keyOk es k = true) : pageOk lsn es = true := by
  unfold pageOk
  rw [h1, Bool.true_and, List.all_eq_true]
  exact fun k hk => h k (List.mem_range.1 hk)

/-- What it returns. -/
def checkE (lsn : Int) (es : List (Int × Int)) : Option Nat := if pageOk lsn es then none else some 1

set_option maxHeartbeats 2000000 in
set_option maxRecDepth 100000 in
theorem check_calls (a : Nat → Addr) (lsn : Int) (sl : Value) (es : List (Int × Int)) (w : World) (hs : Sents w a) (hp : P2 w 109 sl es) :
    Calls Tryd.prog 36 #[.agg #[.int .i64 lsn, sl]] w fun e w' => e = .returned (errv a (checkE lsn es)) ∧ Below w.heap.size w w' := by
  have hg1 : w.cell? ⟨0, 0, none⟩ = some (.iface 163 (.pointer (some (a 1)))) := hs.cell 1 (by decide)
  obtain ⟨sad, hsa⟩ : ∃ x, a 1 = x := ⟨_, rfl⟩
  rw [hsa] at hg1
  have HSA := Aside0.mk hsa
  have hlt1 : 0 < w.heap.size := World.block_lt_of_cell? _ _ hg1
  have HP := Aside0.mk hp
  obtain ⟨A, cap, rfl, _⟩ := ow_slice hp.1
  obtain ⟨n, hn⟩ : ∃ n, es.length = n := ⟨_, rfl⟩
  have HN := Aside0.mk hn
  have hmax : n ≤ 100000 := by rw [← hn]; exact hp.2
  rw [hn]
  clear hs hp hsa hn
  have HBAD := Aside0.mk (show headOk lsn n = false → errv a (checkE lsn es) = .iface 163 (.pointer (some sad)) from fun h => by
    have : checkE lsn es = some 1 := by unfold checkE pageOk; rw [HN.out, h]; rfl
    rw [this, ← HSA.out]; rfl)
  rcases (show lsn < 0 ∨ (0 ≤ lsn ∧ 1073741824 < lsn) ∨ (0 ≤ lsn ∧ lsn ≤ 1073741824 ∧ (20 : Int) < n) ∨ (lsn = 0 ∧ (n : Int) ≤ 20 ∧ 0 < n) ∨ (0 ≤ lsn ∧ lsn ≤ 1073741824 ∧ n = 0) ∨ (0 < lsn ∧ lsn ≤ 1073741824 ∧ (n : Int) ≤ 20 ∧ 0 < n) by omega) with h | ⟨h, h2⟩ | ⟨h, h2, h3⟩ | ⟨h, h2, h3⟩ | ⟨h, h2, h3⟩ | ⟨h, h2, h3, h4⟩
  · have HH := Aside0.mk (show headOk lsn n = false by unfold headOk; simp; omega)
    go_enter Tryd.func36, Tryd.ntmps36
    go_wp2
    go_ret
    exact ⟨by simp [HBAD.out HH.out], below_alloc (Below.refl _ _) _⟩
  · have HH := Aside0.mk (show headOk lsn n = false by unfold headOk; simp; omega)
    go_enter Tryd.func36, Tryd.ntmps36
    go_wp2
    go_ret
    exact ⟨by simp [HBAD.out HH.out], below_alloc (Below.refl _ _) _⟩
  · have HH := Aside0.mk (show headOk lsn n = false by unfold headOk; simp; omega)
    go_enter Tryd.func36, Tryd.ntmps36
    go_wp2
    go_ret
    exact ⟨by simp [HBAD.out HH.out], below_alloc (Below.refl _ _) _⟩
  · have HH := Aside0.mk (show headOk lsn n = false by unfold headOk; simp; omega)
    subst h
    go_enter Tryd.func36, Tryd.ntmps36
    go_wp2
    go_ret
    exact ⟨by simp [HBAD.out HH.out], below_alloc (Below.refl _ _) _⟩
  · have HH := Aside0.mk (show errv a (checkE lsn es) = .nilIface by
      have : checkE lsn es = none := by
        unfold checkE
        rw [pageOk_true (by unfold headOk; rw [HN.out]; simp; omega) (fun k hk => by have := HN.out; omega)]; rfl
      rw [this]; rfl)
    subst h3
    go_enter Tryd.func36, Tryd.ntmps36
    go_wp2_with fail
    go_loopg [34] 1 (fun kq v34 w' => v34 = .int .i64 0 ∧ w' = w.alloc (.cells #[.int .i64 lsn, .slice A 0 cap] 32))
    case atStart => exact ⟨rfl, rfl⟩
    case round =>
      obtain ⟨rfl, rfl⟩ := hrel
      go_wp2
      go_ret
      exact ⟨by simp [HH.out], below_alloc (Below.refl _ _) _⟩
  · have HH := Aside0.mk (show headOk lsn n = true by unfold headOk; simp; omega)
    have hz : (lsn == 0) = false := by simp; omega
    obtain ⟨g, rfl⟩ : ∃ g, A = some ⟨g, 0, none⟩ := by
      rcases HP.out.form with ⟨_, he⟩ | ⟨g, c, hv, _⟩
      · have := HN.out; rw [he] at this; simp at this; omega
      · injection hv with h1; exact ⟨g, h1⟩
    have hcell : Aside0 (∀ (i : Nat) (e : Int × Int), es[i]? = some e → w.cell? ⟨g, i * 2, none⟩ = some (.int .i64 e.1) ∧ w.cell? ⟨g, i * 2 + 1, none⟩ = some (.int .i64 e.2)) := by
      rcases HP.out.form with ⟨_, he⟩ | ⟨g', c, hv, hc, _⟩
      · have := HN.out; rw [he] at this; simp at this; omega
      · injection hv with h1; injection h1 with h1; injection h1 with h1; subst h1; exact ⟨hc⟩
    have HGL : Aside0 (g < w.heap.size) := by
      rcases HP.out.form with ⟨_, he⟩ | ⟨g', c, hv, hc, hl⟩
      · have := HN.out; rw [he] at this; simp at this; omega
      · injection hv with h1; injection h1 with h1; injection h1 with h1; subst h1; exact ⟨hl⟩
    go_enter Tryd.func36, Tryd.ntmps36
    go_wp2_with fail
    go_loopg [34] (n + 1) (fun kq v34 w' => ∃ i : Int, v34 = .int .i64 i ∧ Aside0 (0 ≤ i ∧ i ≤ n ∧ (kq : Int) = n + 1 - i ∧ ∀ k : Nat, (k : Int) < i → keyOk es k = true) ∧ Aside0 (Below (w.heap.size + 1) (w.alloc (.cells #[.int .i64 lsn, .slice (some ⟨g, 0, none⟩) n cap] 32)) w'))
    case atStart => exact ⟨0, rfl, ⟨by omega, by omega, by omega, fun k hk => by omega⟩, ⟨Below.refl _ _⟩⟩
    case round =>
      obtain ⟨i, rfl, HI, HB⟩ := hrel
      have hi0 : 0 ≤ i := HI.out.1
      have hg1' : wr.cell? ⟨0, 0, none⟩ = some (.iface 163 (.pointer (some sad))) := by
        rw [HB.out.cell (p := ⟨0, 0, none⟩) (by show 0 < _; omega), World.cell?_alloc_lt _ _ _ (by exact hlt1)]; exact hg1
      have hw1 : wr.cell? ⟨w.heap.size, 1, none⟩ = some (.slice (some ⟨g, 0, none⟩) n cap) := by
        rw [HB.out.cell (p := ⟨w.heap.size, 1, none⟩) (by simp)]; simp
      have hlts : w.heap.size < wr.heap.size := by have := HB.out.size; simp at this; omega
      have hls : 0 < wr.heap.size := by omega
      by_cases hlt : i < n
      · obtain ⟨e, he⟩ : ∃ e, es[i.toNat]? = some e := ⟨_, List.getElem?_eq_getElem (by have := HN.out; omega)⟩
        obtain ⟨hc0, hc1⟩ := hcell.out i.toNat e he
        have hd0 : wr.cell? ⟨g, i.toNat * 2, none⟩ = some (.int .i64 e.1) := by
          rw [HB.out.cell (p := ⟨g, _, none⟩) (by have := HGL.out; show g < _; omega), World.cell?_alloc_lt _ _ _ (by exact HGL.out)]; exact hc0
        have hd1 : wr.cell? ⟨g, i.toNat * 2 + 1, none⟩ = some (.int .i64 e.2) := by
          rw [HB.out.cell (p := ⟨g, _, none⟩) (by have := HGL.out; show g < _; omega), World.cell?_alloc_lt _ _ _ (by exact HGL.out)]; exact hc1
        clear hc0 hc1
        obtain ⟨x, y⟩ := e
        simp only at hd0 hd1
        have HE := Aside0.mk he
        have HBK := Aside0.mk (show keyOk es i.toNat = false → errv a (checkE lsn es) = .iface 163 (.pointer (some sad)) from fun h => by
          have : checkE lsn es = some 1 := by unfold checkE; rw [pageOk_false (by have := HN.out; omega) h]; rfl
          rw [this, ← HSA.out]; rfl)
        have HBB := Aside0.mk ((below_alloc (Below.refl w.heap.size w) (.cells #[.int .i64 lsn, .slice (some ⟨g, 0, none⟩) n cap] 32)).trans (HB.out.mono (Nat.le_succ _)))
        clear he
        rcases (show x < 0 ∨ (0 ≤ x ∧ 1048576 ≤ x) ∨ (0 ≤ x ∧ x < 1048576) by omega) with k1 | ⟨k1, k2⟩ | ⟨k1, k2⟩
        · replace HBK := Aside0.mk (HBK.out (by unfold keyOk; rw [HE.out]; simp; omega))
          have q1 : decide (x < 0) = true := decide_eq_true k1
          go_wp2_with fail
          go_quiet (fail)
          go_wp2_with fail
          go_ret
          exact ⟨by simp [HBK.out], by repeat (first | exact HBB.out | apply pw_below_drewN | apply below_drew1 | apply below_alloc)⟩
        · replace HBK := Aside0.mk (HBK.out (by unfold keyOk; rw [HE.out]; simp; omega))
          have q1 : decide (x < 0) = false := decide_eq_false (by omega)
          have q2 : decide (x ≥ 1048576) = true := decide_eq_true (by omega)
          go_wp2_with fail
          go_quiet (fail)
          go_wp2_with fail
          go_ret
          exact ⟨by simp [HBK.out], by repeat (first | exact HBB.out | apply pw_below_drewN | apply below_drew1 | apply below_alloc)⟩
        · have q1 : decide (x < 0) = false := decide_eq_false (by omega)
          have q2 : decide (x ≥ 1048576) = false := decide_eq_false (by omega)
          have hgl : g < wr.heap.size := by have := HGL.out; omega
          rcases (show i = 0 ∨ 0 < i by omega) with k3 | k3
          · subst k3
            have hd0' : wr.cell? ⟨g, 0, none⟩ = some (.int .i64 x) := hd0
            have hd1' : wr.cell? ⟨g, 1, none⟩ = some (.int .i64 y) := hd1
            clear hd0 hd1
            have HK := Aside0.mk (show keyOk es 0 = true by unfold keyOk; rw [show es[0]? = some (x, y) from HE.out]; simp; omega)
            go_wp2_with fail
            go_quiet (fail)
            go_wp2_with fail
            go_roundg (gk - 1)
            case measure => have := HI.out; omega
            case rel =>
              refine ⟨0 + 1, rfl, ⟨by omega, by omega, by have := HI.out; omega, fun k hk => ?_⟩, ⟨?_⟩⟩
              · rcases (show (k : Int) < 0 ∨ k = 0 by omega) with h | h
                · exact HI.out.2.2.2 k h
                · subst h; exact HK.out
              · have := HB.out
                have := HB.out.size
                simp at this
                repeat (first | exact HB.out | apply pw_below_drewN | apply below_drew1 | refine Below.alloc ?_ (by omega) _)
          · obtain ⟨⟨x', y'⟩, he'⟩ : ∃ e, es[(i - 1).toNat]? = some e := ⟨_, List.getElem?_eq_getElem (by have := HN.out; omega)⟩
            obtain ⟨hc0, hc1⟩ := hcell.out (i - 1).toNat _ he'
            have hd2 : wr.cell? ⟨g, (i - 1).toNat * 2, none⟩ = some (.int .i64 x') := by
              rw [HB.out.cell (p := ⟨g, _, none⟩) (by have := HGL.out; show g < _; omega), World.cell?_alloc_lt _ _ _ (by exact HGL.out)]; exact hc0
            clear hc0 hc1
            have hd3 : wr.cell? ⟨g, (i.toNat - 1) * 2, none⟩ = some (.int .i64 x') := by rw [show i.toNat - 1 = (i - 1).toNat from by omega]; exact hd2
            have HE' := Aside0.mk (show es[i.toNat - 1]? = some (x', y') by rw [show i.toNat - 1 = (i - 1).toNat from by omega]; exact he')
            clear he'
            have q3 : decide (i > 0) = true := decide_eq_true (by omega)
            have hz0 : 0 ≤ i - 1 := by omega
            have hz1 : i - 1 < n := by omega
            rcases (show x ≤ x' ∨ x' < x by omega) with k4 | k4
            · replace HBK := Aside0.mk (HBK.out (by unfold keyOk; rw [HE.out, HE'.out]; simp; omega))
              have q4 : decide (x' ≥ x) = true := decide_eq_true (by omega)
              go_wp2_with fail
              go_quiet (fail)
              go_wp2_with fail
              go_ret
              exact ⟨by simp [HBK.out], by repeat (first | exact HBB.out | apply pw_below_drewN | apply below_drew1 | apply below_alloc)⟩
            · have q4 : decide (x' ≥ x) = false := decide_eq_false (by omega)
              have HK := Aside0.mk (show keyOk es i.toNat = true by unfold keyOk; rw [HE.out, HE'.out]; simp; omega)
              go_wp2_with fail
              go_quiet (fail)
              go_wp2_with fail
              go_roundg (gk - 1)
              case measure => have := HI.out; omega
              case rel =>
                refine ⟨i + 1, rfl, ⟨by omega, by omega, by have := HI.out; omega, fun k hk => ?_⟩, ⟨?_⟩⟩
                · rcases (show (k : Int) < i ∨ k = i.toNat by omega) with h | h
                  · exact HI.out.2.2.2 k h
                  · subst h; exact HK.out
                · have := HB.out
                  have := HB.out.size
                  simp at this
                  repeat (first | exact HB.out | apply pw_below_drewN | apply below_drew1 | refine Below.alloc ?_ (by omega) _)
      · have HE := Aside0.mk (show errv a (checkE lsn es) = .nilIface by
          have : checkE lsn es = none := by
            unfold checkE
            rw [pageOk_true (by rw [HN.out]; exact HH.out) (fun k hk => HI.out.2.2.2 k (by have := HI.out; have := HN.out; omega))]; rfl
          rw [this]; rfl)
        go_wp2_with fail
        go_ret
        exact ⟨by simp [HE.out], (below_alloc (Below.refl w.heap.size w) (.cells #[.int .i64 lsn, .slice (some ⟨g, 0, none⟩) n cap] 32)).trans (HB.out.mono (Nat.le_succ _))⟩

end Go.Proofs.YtlgpkbhajloajaaDoor.Page
/- The contracts of bytes.Equal, page.Bytes, page.Read. No condition but that api's errors are what their text says. -/
namespace Go.Proofs.YtlgpkbhajloajaaDoor.PageB
open Go.RowKit Go.Proofs.YtlgpkbhajloajaaDoorW.PrintWords Go.Proofs.YtlgpkbhajloajaaDoorW.PrintLast Go.Proofs.YtlgpkbhajloajaaDoorW.PrintMore
open Go.Proofs.YtlgpkbhajloajaaDoor.See Go.Proofs.YtlgpkbhajloajaaDoor.Mem Go.Proofs.YtlgpkbhajloajaaDoor.Clone Go.Proofs.YtlgpkbhajloajaaDoor.Cell Go.Proofs.YtlgpkbhajloajaaDoor.Page
attribute [local go_sem] max2_int min2_int max_two min_two
set_option linter.unusedVariables false
set_option linter.unusedSimpArgs false

theorem bs_convert {w : World} {v : Value} {bs : List Int} (h : BS w v bs) : (convert 41 9 v).run Tryd.prog w = .ok (.string (strOfNums bs)) w := by
  rcases h.2.2 with ⟨rfl, h0⟩ | ⟨g, off, cap, cur, fz, rfl, hh, hnc, hcm, hsz, htk⟩
  · obtain rfl := List.eq_nil_of_length_eq_zero h0
    exact run_convert_bytes_nil w _ _ Tryd.underlying41 Tryd.underlying5 0 0 _ Tryd.underlying9
  · refine run_convert_bytes_arg w _ _ Tryd.underlying41 Tryd.underlying5 g off _ cap bs rfl (fun i hi => ?_) _ Tryd.underlying9
    have : (bs.map (Value.int .u8))[i]? = some (.int .u8 (bs.getD i 0)) := by
      rw [List.getElem?_map, List.getElem?_eq_getElem hi]; simp [List.getD, List.getElem?_eq_getElem hi]
    rw [← htk, List.getElem?_take, if_pos (by omega), List.getElem?_drop] at this
    simp only [World.cell?, hh]
    simpa using this

theorem strOfNums_inj : ∀ {a b : List Int}, IsB a → IsB b → strOfNums a = strOfNums b → a = b := by
  intro a b ha hb h
  have h2 : (a.map fun n => UInt8.ofNat n.toNat) = b.map fun n => UInt8.ofNat n.toNat := by
    rw [← strOfNums_data, ← strOfNums_data, h]
  clear h
  induction a generalizing b with
  | nil => cases b with
    | nil => rfl
    | cons y b => simp at h2
  | cons x a ih => cases b with
    | nil => simp at h2
    | cons y b =>
      simp only [List.map_cons, List.cons.injEq] at h2
      obtain ⟨h3, h4⟩ := h2
      obtain ⟨x0, x1⟩ := ha x (List.mem_cons_self ..)
      obtain ⟨y0, y1⟩ := hb y (List.mem_cons_self ..)
      have h5 := congrArg UInt8.toNat h3
      simp at h5
      have hxy : x = y := by omega
      rw [hxy, ih (fun z hz => ha z (List.mem_cons_of_mem _ hz)) (fun z hz => hb z (List.mem_cons_of_mem _ hz)) h4]

set_option maxHeartbeats 1000000 in
set_option maxRecDepth 100000 in
theorem equal_calls (u v : Value) (a b : List Int) (w : World) (ha : BS w u a) (hb : BS w v b) (Ba : IsB a) (Bb : IsB b) :
    Calls Tryd.prog 51 #[u, v] w fun e w' => e = .returned (.bool (decide (a = b))) ∧ w = w' := by
  have h1 := bs_convert ha
  have h2 := bs_convert hb
  have HE := Aside0.mk (show ((strOfNums a).toList == (strOfNums b).toList) = decide (a = b) by
    by_cases h : a = b
    · subst h; simp
    · rw [decide_eq_false h]
      exact beq_eq_false_iff_ne.2 fun he => h (strOfNums_inj Ba Bb (by
        rw [ByteArray.toList_eq, ByteArray.toList_eq] at he
        exact congrArg ByteArray.mk (by simpa using congrArg List.toArray he : (strOfNums a).data = (strOfNums b).data))))
  clear ha hb Ba Bb
  obtain ⟨s, hs⟩ : ∃ s, strOfNums a = s := ⟨_, rfl⟩
  obtain ⟨t, ht⟩ : ∃ t, strOfNums b = t := ⟨_, rfl⟩
  rw [hs] at h1
  rw [ht] at h2
  rw [hs, ht] at HE
  clear hs ht
  go_enter Tryd.func51, Tryd.ntmps51
  go_wp2
  go_ret
  exact ⟨by simp [← HE.out], rfl⟩

/-- One key more in a sector. -/
def pbAdd (b : List Int) (k : Nat) (e : Int × Int) : List Int := putL (putL b (16 + 12 * k) 4 (IntKind.u64.wrap e.1)) (16 + 12 * k + 4) 8 (IntKind.u64.wrap e.2)

/-- A page's sector, its first keys. -/
def pbN (lsn : Int) (es : List (Int × Int)) : Nat → List Int
  | 0 => putL (putL (List.replicate 256 0) 0 4 (IntKind.u64.wrap lsn)) 4 2 (IntKind.u64.wrap (es.length : Int))
  | i + 1 => match es[i]? with
    | none => pbN lsn es i
    | some e => pbAdd (pbN lsn es i) i e

theorem pbAdd_len (b : List Int) (k : Nat) (e : Int × Int) (h : b.length = 256) (hk : k < 20) : (pbAdd b k e).length = 256 := by
  unfold pbAdd
  rw [putL_length _ _ _ _ (by rw [putL_length _ _ _ _ (by omega)]; omega), putL_length _ _ _ _ (by omega), h]

set_option maxRecDepth 100000 in
theorem pbN_len (lsn : Int) (es : List (Int × Int)) : ∀ i, i ≤ 20 → (pbN lsn es i).length = 256
  | 0, _ => by unfold pbN; rw [putL_length _ _ _ _ (by rw [putL_length _ _ _ _ (by simp)]; simp), putL_length _ _ _ _ (by simp), List.length_replicate]
  | i + 1, h => by
    unfold pbN
    split
    · exact pbN_len lsn es i (by omega)
    · exact pbAdd_len _ _ _ (pbN_len lsn es i (by omega)) (by omega)

theorem pbN_isB (lsn : Int) (es : List (Int × Int)) : ∀ i, IsB (pbN lsn es i)
  | 0 => by unfold pbN; exact putL_isB (putL_isB (IsB.zeros _) _ _ _) _ _ _
  | i + 1 => by
    unfold pbN
    split
    · exact pbN_isB lsn es i
    · exact putL_isB (putL_isB (pbN_isB lsn es i) _ _ _) _ _ _

/-- A page as a sector. -/
def pageBytes (lsn : Int) (es : List (Int × Int)) : List Int := pbN lsn es es.length

/-- What page.Bytes returns. -/
def bytesV (lsn : Int) (es : List (Int × Int)) : List Int := if pageOk lsn es then pageBytes lsn es else []

theorem headOk_of {lsn : Int} {es : List (Int × Int)} (h : pageOk lsn es = true) : headOk lsn es.length = true := by
  unfold pageOk at h; rw [Bool.and_eq_true] at h; exact h.1
theorem keyOk_of {lsn : Int} {es : List (Int × Int)} (h : pageOk lsn es = true) {k : Nat} (hk : k < es.length) : keyOk es k = true := by
  unfold pageOk at h; rw [Bool.and_eq_true, List.all_eq_true] at h; exact h.2 k (List.mem_range.2 hk)
theorem head_facts {lsn : Int} {n : Nat} (h : headOk lsn n = true) : 0 ≤ lsn ∧ lsn ≤ 1073741824 ∧ n ≤ 20 := by
  unfold headOk at h; simp at h; omega

theorem info_u8 : (Tryd.prog.info? 5).map (fun i => (i.zero, i.size, i.bytes)) = some (some (.int .u8 0), 1, 1) := by kernel_rfl

/-- A sector of zeros as it is made. -/
def zb : Array Value := madeCells #[.int .u8 0] 256
theorem zb_list : zb.toList = (List.replicate 256 (0 : Int)).map (.int .u8) := by rw [zb, toList_madeCells_one, List.map_replicate]
theorem make256 (W : World) : (Instr.makeSlice 41 (.int .i64 256) (.int .i64 256)).run Tryd.prog W = .ok (.slice (some ⟨W.heap.size, 0, none⟩) 256 256) (W.alloc (.cells zb 5)) :=
  run_make_row' (P := Tryd.prog) 41 5 (.int .u8 0) 1 Tryd.underlying41 info_u8 rfl .i64 .i64 256 (by decide) (by decide) W

set_option maxRecDepth 100000 in
theorem bs_zb {W : World} {b : Nat} (h : W.heap[b]? = some (.cells zb 5 (0, 0))) : BS W (.slice (some ⟨b, 0, none⟩) 256 256) (List.replicate 256 0) := by
  have hl : zb.size = 256 := size_madeCells _ _
  refine ⟨by simp, by simp, .inr ⟨b, 0, 256, zb, _, by simp, h, by simp, by decide, by simp [hl], ?_⟩⟩
  rw [List.drop_zero, zb_list, List.length_replicate]
  exact List.take_of_length_le (by simp)

set_option maxRecDepth 100000 in
theorem u64_nonneg (n : Int) : 0 ≤ IntKind.u64.wrap n := by
  simp only [IntKind.wrap, IntKind.bits, IntKind.signed, Bool.false_and]
  rw [if_neg (by simp)]
  exact Int.emod_nonneg _ (by decide)

set_option maxHeartbeats 2000000 in
set_option maxRecDepth 100000 in
theorem bytes_calls (a : Nat → Addr) (lsn : Int) (sl : Value) (es : List (Int × Int)) (w : World) (hs : Sents w a) (hp : P2 w 109 sl es) :
    Calls Tryd.prog 48 #[.agg #[.int .i64 lsn, sl]] w fun e w' => ∃ v, e = .returned (.tuple #[v, errv a (checkE lsn es)]) ∧ BS w' v (bytesV lsn es) ∧ Below w.heap.size w w' := by
  have HS := Aside0.mk hs
  have HP := Aside0.mk hp
  obtain ⟨A, cap, rfl, _⟩ := ow_slice hp.1
  obtain ⟨n, hn⟩ : ∃ n, es.length = n := ⟨_, rfl⟩
  have HN := Aside0.mk hn
  rw [hn]
  clear hs hp hn
  go_enter Tryd.func48, Tryd.ntmps48
  go_wp2_with fail
  refine (check_calls a lsn _ es _ (by exact HS.out.below (below_alloc (Below.refl _ _) _)) (by have := HP.out; rw [HN.out] at this; exact P2.below this (below_alloc (Below.refl _ _) _))).mono ?_
  rintro e w1 ⟨rfl, hb⟩
  have HB := Aside0.mk hb
  have hc0 : w1.cell? ⟨w.heap.size, 0, none⟩ = some (.int .i64 lsn) := by rw [hb.cell (p := ⟨w.heap.size, 0, none⟩) (by simp)]; simp
  have hc1 : w1.cell? ⟨w.heap.size, 1, none⟩ = some (.slice A n cap) := by rw [hb.cell (p := ⟨w.heap.size, 1, none⟩) (by simp)]; simp
  clear hb
  by_cases hok : pageOk lsn es = true
  · have HF := head_facts (headOk_of hok)
    have hce : errv a (checkE lsn es) = .nilIface := by unfold checkE; rw [if_pos hok]; rfl
    rw [hce]
    go_wp2_with fail
    have hz : w.heap.size < w1.heap.size := by have := HB.out.size; simp at this; omega
    have hmk := make256
    go_region_held3 (fun w' => w'.cell? ⟨w.heap.size, 0, none⟩ = some (.int .i64 lsn) ∧ w'.cell? ⟨w.heap.size, 1, none⟩ = some (.slice A n cap))
      (refine ⟨?_, ?_⟩ <;> (first | go_keep | (rw [hk]; go_keep)))
      (first | (go_at_call 68; refine (put_calls _ _ 0 4 _ (by omega) (by omega) (by omega) (by rw [List.length_replicate]; omega) (u64_nonneg _) _ (bs_zb (b := w1.heap.size) (by show (w1.heap.push _)[w1.heap.size]? = _; exact Array.getElem?_push_size))).mono ?_; rintro e w2 ⟨v2, rfl, hv2, hb2⟩; have hk : ∀ o, w2.cell? ⟨w.heap.size, o, none⟩ = _ := fun o => hb2.cell (p := ⟨w.heap.size, o, none⟩) (by simp; omega)))
    have HV := Aside0.mk hv2
    replace HB := Aside0.mk (below_step (by repeat (first | exact HB.out | apply below_drew1 | apply below_alloc)) hb2)
    obtain ⟨_, hc1'⟩ : w2.cell? ⟨w.heap.size, 0, none⟩ = some (.int .i64 lsn) ∧ w2.cell? ⟨w.heap.size, 1, none⟩ = some (.slice A n cap) := by assumption
    have hz2 : w.heap.size < w2.heap.size := by have := HB.out.size; simp at this; omega
    clear hk hb2 hv2 hc0 hc1 hmk hz
    go_wp2_with fail
    refine (put_calls _ _ 4 2 _ (by omega) (by omega) (by omega) (by rw [putL_length _ _ _ _ (by rw [List.length_replicate]; decide), List.length_replicate]; omega) (u64_nonneg _) _ HV.out).mono ?_
    rintro e w3 ⟨v3, rfl, hv3, hb3⟩
    replace HV := Aside0.mk (show BS w3 v3 (pbN lsn es 0) by have := hv3; rw [← HN.out] at this; exact this)
    replace HB := Aside0.mk (below_step HB.out hb3)
    have hc1 : w3.cell? ⟨w.heap.size, 1, none⟩ = some (.slice A n cap) := by rw [hb3.cell (p := ⟨w.heap.size, 1, none⟩) (by exact hz2)]; exact hc1'
    clear hc1' hb3 hv3
    go_wp2_with fail
    replace HB := Aside0.mk ((below_alloc (Below.refl w.heap.size w) (.cells #[.int .i64 lsn, .slice A n cap] 32)).trans (HB.out.mono (by simp)))
    clear hc1 hz2
    go_loopg [5, 28] (n + 1) (fun kq v5 v28 w' => ∃ (i : Int) (v : Value), v5 = v ∧ v28 = .int .i64 i ∧ Aside0 (0 ≤ i ∧ i ≤ n ∧ (kq : Int) = n + 1 - i) ∧ Aside0 (BS w' v (pbN lsn es i.toNat)) ∧ Aside0 (Below w.heap.size w w'))
    case atStart => exact ⟨0, v3, rfl, rfl, ⟨by omega, by omega, by omega⟩, HV, HB⟩
    case round =>
      clear HV HB
      obtain ⟨i, v, rfl, rfl, HI, HV, HB⟩ := hrel
      have hi0 : 0 ≤ i := HI.out.1
      by_cases hlt : i < n
      · obtain ⟨⟨x, y⟩, he⟩ : ∃ e, es[i.toNat]? = some e := ⟨_, List.getElem?_eq_getElem (by have := HN.out; omega)⟩
        have HE := Aside0.mk he
        obtain ⟨g, hA⟩ : ∃ g, A = some ⟨g, 0, none⟩ := by
          rcases HP.out.form with ⟨_, h0⟩ | ⟨g, c, hv, _⟩
          · have := HN.out; rw [h0] at this; simp at this; omega
          · injection hv with h1; exact ⟨g, h1⟩
        subst hA
        have hcl : wr.cell? ⟨g, i.toNat * 2, none⟩ = some (.int .i64 x) ∧ wr.cell? ⟨g, i.toNat * 2 + 1, none⟩ = some (.int .i64 y) := by
          rcases (P2.below HP.out HB.out).form with ⟨_, h0⟩ | ⟨g', c, hv, hc, _⟩
          · have := HN.out; rw [h0] at this; simp at this; omega
          · injection hv with h1; injection h1 with h1; injection h1 with h1; subst h1; exact hc _ _ he
        obtain ⟨hd0, hd1⟩ := hcl
        have hi20 : i < 20 := by have := HN.out; omega
        have hL := pbN_len lsn es i.toNat (by omega)
        have HL := Aside0.mk hL
        clear he hL
        go_wp2_with fail
        have hin : IntKind.i64.wrap (16 + i * 12 + 4) = 16 + i * 12 + 4 := IntWalk.i64_in _ (by omega)
        go_region_held3 (fun w' => w'.cell? ⟨wr.heap.size, 0, none⟩ = some (.int .i64 x) ∧ w'.cell? ⟨wr.heap.size, 1, none⟩ = some (.int .i64 y))
          (refine ⟨?_, ?_⟩ <;> (first | go_keep | (rw [hk]; go_keep) | (rw [hk2]; first | go_keep | (rw [hk]; go_keep))))
          (first | (go_at_call 68; refine (put_calls v4 _ (16 + i * 12 + 4) 8 _ (by omega) (by omega) (by omega) (by rw [putL_length _ _ _ _ (by rw [HL.out]; omega), HL.out]; omega) (u64_nonneg _) _ (BS.below hv4 (by repeat (first | exact Below.refl _ _ | apply below_drew1 | apply below_alloc)))).mono ?_; rintro e w5 ⟨v5, rfl, hv5, hb5⟩; have hk2 : ∀ o, w5.cell? ⟨wr.heap.size, o, none⟩ = _ := fun o => hb5.cell (p := ⟨wr.heap.size, o, none⟩) (by have := hb4.size; simp at this; simp; omega)) | (go_at_call 68; refine (put_calls _ _ (16 + i * 12) 4 _ (by omega) (by omega) (by omega) (by rw [HL.out]; omega) (u64_nonneg _) _ (BS.below HV.out (by repeat (first | exact Below.refl _ _ | apply below_drew1 | apply below_alloc)))).mono ?_; rintro e w4 ⟨v4, rfl, hv4, hb4⟩; have hk : ∀ o, w4.cell? ⟨wr.heap.size, o, none⟩ = _ := fun o => hb4.cell (p := ⟨wr.heap.size, o, none⟩) (by simp)))
        have HV5 := Aside0.mk hv5
        have HB4 := Aside0.mk hb4
        have HB5 := Aside0.mk hb5
        clear hk hk2 hb4 hb5 hv4 hv5 hin
        go_wp2_with fail
        go_roundg (gk - 1)
        case measure => have := HI.out; omega
        case rel =>
          refine ⟨i + 1, _, rfl, rfl, ⟨by omega, by omega, by have := HI.out; omega⟩, ⟨?_⟩, ⟨?_⟩⟩
          · have e : pbN lsn es (i + 1).toNat = putL (putL (pbN lsn es i.toNat) (16 + i * 12).toNat (4 : Int).toNat (IntKind.u64.wrap x)) (16 + i * 12 + 4).toNat (8 : Int).toNat (IntKind.u64.wrap y) := by
              rw [show (i + 1).toNat = i.toNat + 1 from by omega]
              rw [pbN, HE.out]
              simp only [pbAdd]
              rw [show (16 + i * 12).toNat = 16 + 12 * i.toNat from by omega, show (16 + i * 12 + 4).toNat = 16 + 12 * i.toNat + 4 from by omega]
              rfl
            rw [e]; exact HV5.out
          · exact below_step (below_step (by repeat (first | exact HB.out | apply below_drew1 | apply below_alloc)) HB4.out) HB5.out
      · go_wp2_with fail
        exact bodyPost_ret (v := .tuple #[u5, .nilIface]) (by simp [results, Tryd.results48, go_sem]) rfl ⟨u5, rfl, by
          have := HV.out
          rw [show i.toNat = es.length from by have := HI.out; have := HN.out; omega] at this
          unfold bytesV; rw [if_pos hok]; exact this, HB.out⟩
  · have hce : errv a (checkE lsn es) = .iface 163 (.pointer (some (a 1))) := by unfold checkE; rw [if_neg hok]; rfl
    have HCE := Aside0.mk hce
    rw [hce]
    clear hce
    go_wp2_with fail
    exact bodyPost_ret (v := .tuple #[.slice none 0 0, .iface 163 (.pointer (some (a 1)))]) (by simp [results, Tryd.results48, go_sem]) rfl ⟨_, by first | rfl | rw [HCE.out], by unfold bytesV; rw [if_neg hok]; exact BS.nil _, (below_alloc (Below.refl w.heap.size w) (.cells #[.int .i64 lsn, .slice A n cap] 32)).trans (HB.out.mono (by simp))⟩

end Go.Proofs.YtlgpkbhajloajaaDoor.PageB
/- The contract of page.Read. No condition but that api's errors are what their text says. -/
namespace Go.Proofs.YtlgpkbhajloajaaDoor.PageR
open Go.RowKit Go.Proofs.YtlgpkbhajloajaaDoorW.PrintWords Go.Proofs.YtlgpkbhajloajaaDoorW.PrintLast Go.Proofs.YtlgpkbhajloajaaDoorW.PrintMore
open Go.Proofs.YtlgpkbhajloajaaDoor.See Go.Proofs.YtlgpkbhajloajaaDoor.Mem Go.Proofs.YtlgpkbhajloajaaDoor.Clone Go.Proofs.YtlgpkbhajloajaaDoor.Cell Go.Proofs.YtlgpkbhajloajaaDoor.Page Go.Proofs.YtlgpkbhajloajaaDoor.PageB
attribute [local go_sem] max2_imax min2_imin max_two min_two
set_option linter.unusedVariables false
set_option linter.unusedSimpArgs false

/-- A field of a sector. -/
def fld (bs : List Int) (a s : Nat) : Int := le ((bs.drop a).take s)

/-- A key of a sector. -/
def keyAt (bs : List Int) (k : Nat) : Int × Int := (fld bs (16 + 12 * k) 4, IntKind.i64.wrap (fld bs (16 + 12 * k + 4) 8))

/-- The keys of a sector. -/
def keysOf (bs : List Int) (n : Nat) : List (Int × Int) := (List.range n).map (keyAt bs)
theorem keysOf_len (bs : List Int) (n : Nat) : (keysOf bs n).length = n := by simp [keysOf]
theorem keysOf_succ (bs : List Int) (n : Nat) : keysOf bs (n + 1) = keysOf bs n ++ [keyAt bs n] := by simp [keysOf, List.range_succ]

def lsnOf (bs : List Int) : Int := fld bs 0 4
def cntOf (bs : List Int) : Nat := (min (fld bs 4 2) 20).toNat

/-- A sector as a page. -/
def readPage (bs : List Int) : Option (Int × List (Int × Int)) :=
  if pageOk (lsnOf bs) (keysOf bs (cntOf bs)) && decide (pageBytes (lsnOf bs) (keysOf bs (cntOf bs)) = bs) then some (lsnOf bs, keysOf bs (cntOf bs)) else none

set_option maxRecDepth 100000 in
theorem fld_bound {bs : List Int} (h : IsB bs) (a s : Nat) (hs : s ≤ 8) : 0 ≤ fld bs a s ∧ fld bs a s < 256 ^ s := by
  obtain ⟨h1, h2⟩ := le_bound ((bs.drop a).take s) ((h.drop a).take s)
  refine ⟨h1, Int.lt_of_lt_of_le h2 ?_⟩
  have hl : ((bs.drop a).take s).length ≤ s := by rw [List.length_take]; omega
  have := Nat.pow_le_pow_right (n := 256) (by decide) hl
  exact_mod_cast this

theorem news2_at (W : World) (u v : Value) (e : Nat) : ∀ j x, [u, v][j]? = some x → (W.alloc (.cells #[u, v] e)).cell? ((⟨W.heap.size, 0, none⟩ : Addr).add j) = some x := by
  intro j x hj
  rw [add_at]
  match j, hj with
  | 0, hj => simp at hj; subst hj; simp
  | 1, hj => simp at hj; subst hj; simp
theorem news2_one (x y : Int) : ∀ u ∈ [Value.int .i64 x, Value.int .i64 y], u.oneCell' = true := by
  intro u hu
  simp at hu
  rcases hu with rfl | rfl <;> rfl
theorem len_ok {n : Nat} (h : n ≤ 100000) : n + 1 ≤ maxLen := by unfold maxLen; omega
theorem bytes_ok {n : Nat} (h : n ≤ 100000) : (n + 1) * 16 ≤ 140737488355328 := by omega

theorem get_x (v : Value) (bs : List Int) (a s x : Int) (h0 : 0 ≤ a) (h1 : 1 ≤ s) (h8 : s ≤ 8) (hn : a + s ≤ bs.length) (hB : IsB bs) (w : World) (hb : BS w v bs) (hx : fld bs a.toNat s.toNat = x) :
    Calls Tryd.prog 50 #[v, .int .i64 a, .int .i64 s] w fun e w' => e = .returned (.int .u64 x) ∧ w = w' := by
  subst hx; exact get_calls v bs a s h0 h1 h8 hn hB w hb

/-- What page.Read comes to. -/
def ReadPost (a : Nat → Addr) (bs : List Int) (w : World) (e : Ending) (w' : World) : Prop :=
  ∃ sl, e = .returned (.tuple #[.agg #[.int .i64 ((readPage bs).getD (0, [])).1, sl], errv a (if (readPage bs).isSome then none else some 6)]) ∧ P2 w' 109 sl ((readPage bs).getD (0, [])).2 ∧ Below w.heap.size w w'

set_option maxHeartbeats 2000000 in
set_option maxRecDepth 100000 in
theorem read_calls (a : Nat → Addr) (v : Value) (bs : List Int) (w : World) (hs : Sents w a) (hb : BS w v bs) (hl : bs.length = 256) (hB : IsB bs) :
    Calls Tryd.prog 24 #[v] w (ReadPost a bs w) := by
  have HS := Aside0.mk hs
  have HV := Aside0.mk hb
  have HL := Aside0.mk hl
  have HIB := Aside0.mk hB
  obtain ⟨A, c, rfl, _⟩ := Rd.form hb
  rw [hl] at HV ⊢
  obtain ⟨l4, hl4⟩ : ∃ x, fld bs 0 4 = x := ⟨_, rfl⟩
  obtain ⟨c2, hc2⟩ : ∃ x, fld bs 4 2 = x := ⟨_, rfl⟩
  have hl4b := fld_bound hB 0 4 (by decide)
  have hc2b := fld_bound hB 4 2 (by decide)
  rw [hl4] at hl4b
  rw [hc2] at hc2b
  obtain ⟨l0, l1⟩ := hl4b
  obtain ⟨c0, c1⟩ := hc2b
  replace l1 : l4 < 4294967296 := l1
  replace c1 : c2 < 65536 := c1
  obtain ⟨n, hmin⟩ : ∃ n, imin c2 20 = n := ⟨_, rfl⟩
  have hn0 : 0 ≤ n := by rw [imin_eq] at hmin; omega
  have hn1 : n ≤ 20 := by rw [imin_eq] at hmin; omega
  have HL4 := Aside0.mk hl4
  have HC2 := Aside0.mk hc2
  have HMIN := Aside0.mk hmin
  clear hs hb hl hB hl4 hc2
  go_enter Tryd.func24, Tryd.ntmps24
  go_wp2_with fail
  refine (get_x _ bs 0 4 l4 (by omega) (by omega) (by omega) (by rw [HL.out]; decide) HIB.out _ (by have := HV.out; exact BS.below this (below_alloc (Below.refl _ _) _)) HL4.out).mono ?_
  rintro e w' ⟨rfl, rfl⟩
  go_wp2_with fail
  refine (get_x _ bs 4 2 c2 (by omega) (by omega) (by omega) (by rw [HL.out]; decide) HIB.out _ (by have := HV.out; exact BS.below this (by repeat (first | exact Below.refl _ _ | apply below_drew1 | apply below_alloc))) HC2.out).mono ?_
  rintro e w' ⟨rfl, rfl⟩
  go_wp2_with fail
  obtain ⟨nn, hnn⟩ : ∃ nn : Nat, n.toNat = nn := ⟨_, rfl⟩
  have HNN := Aside0.mk hnn
  clear hnn hmin
  go_loopg [22] (nn + 1) (fun kq v22 w' => ∃ (i : Int) (sl : Value), v22 = .int .i64 i ∧ Aside0 (0 ≤ i ∧ i ≤ n ∧ (kq : Int) = nn + 1 - i) ∧ Aside0 (w.heap.size + 2 ≤ w'.heap.size) ∧ Aside0 (w'.cell? ⟨w.heap.size + 1, 0, none⟩ = some (.int .i64 l4) ∧ w'.cell? ⟨w.heap.size + 1, 1, none⟩ = some sl ∧ w'.frozen? ⟨w.heap.size + 1, 1, none⟩ = false) ∧ Aside0 (w'.ownsRow (w.heap.size + 2) 109 2 sl i.toNat (cells2 (keysOf bs i.toNat))) ∧ Aside0 (Below (w.heap.size + 1) (w.alloc (.cells #[.int .i64 0, .slice none 0 0] 32)) w'))
  case atStart => exact ⟨0, .slice none 0 0, rfl, ⟨by omega, by omega, by omega⟩, ⟨by simp⟩, ⟨by simp, by simp, by simp⟩, ⟨World.ownsRow_nil _ _ _ _⟩, ⟨Below.alloc (Below.refl _ _) (by simp) _⟩⟩
  case round =>
    obtain ⟨i, sl, rfl, HI, HSZ, HC, HO, HBZ⟩ := hrel
    have HB := Aside0.mk ((below_alloc (Below.refl w.heap.size w) (.cells #[.int .i64 0, .slice none 0 0] 32)).trans (HBZ.out.mono (Nat.le_succ _)))
    have hi0 : 0 ≤ i := HI.out.1
    by_cases hlt : i < n
    · obtain ⟨i0, hi, hzz⟩ := Option.map_eq_some_iff.1 info_entries
      simp only [Prod.mk.injEq] at hzz
      obtain ⟨hz0, hz1, hz2⟩ := hzz
      obtain ⟨x, hx⟩ : ∃ x, fld bs (16 + 12 * i.toNat) 4 = x := ⟨_, rfl⟩
      obtain ⟨y, hy⟩ : ∃ y, fld bs (16 + 12 * i.toNat + 4) 8 = y := ⟨_, rfl⟩
      have hxb := fld_bound HIB.out (16 + 12 * i.toNat) 4 (by decide)
      rw [hx] at hxb
      obtain ⟨x0, x1⟩ := hxb
      replace x1 : x < 4294967296 := x1
      obtain ⟨p, hp⟩ : ∃ p, 16 + i * 12 = p := ⟨_, rfl⟩
      have HXF := Aside0.mk (show fld bs p.toNat (4 : Int).toNat = x by rw [← hp, show (16 + i * 12).toNat = 16 + 12 * i.toNat from by omega]; exact hx)
      have HYF := Aside0.mk (show fld bs (p + 4).toNat (8 : Int).toNat = y by rw [← hp, show (16 + i * 12 + 4).toNat = 16 + 12 * i.toNat + 4 from by omega]; exact hy)
      have HKEY := Aside0.mk (show keyAt bs i.toNat = (x, IntKind.i64.wrap y) by unfold keyAt; rw [hx, hy])
      have hp0 : 0 ≤ p := by omega
      have hp1 : p ≤ 244 := by omega
      have hin : IntKind.i64.wrap (p + 4) = p + 4 := IntWalk.i64_in _ (by omega)
      have hc0 := HC.out.2.1
      have hf0 := HC.out.2.2
      have hsz1 : w.heap.size + 1 < wr.heap.size := by have := HSZ.out; omega
      have hwx : IntKind.i64.wrap x = x := IntWalk.i64_in _ (by omega)
      have hn5 : i.toNat ≤ 100000 := by omega
      clear hx hy
      go_wp2_with fail
      go_region_law (first
        | (go_simp; go_at_call 50; have := hg1; refine (get_x _ bs (p + 4) 8 y (by omega) (by omega) (by omega) (by rw [HL.out]; omega) HIB.out _ (by have := HV.out; exact BS.below this (by repeat (first | exact HB.out | apply below_drew1 | apply below_alloc))) HYF.out).mono ?_; rintro e w' ⟨rfl, rfl⟩)
        | (go_simp; go_at_call 50; refine (get_x _ bs p 4 x (by omega) (by omega) (by omega) (by rw [HL.out]; omega) HIB.out _ (by have := HV.out; exact BS.below this (by repeat (first | exact HB.out | apply below_drew1 | apply below_alloc))) HXF.out).mono ?_; rintro e w' ⟨rfl, rfl⟩; have hg1 := trivial)
        | (refine step_append_lies _ (by rfl) _ _ 30 (by rfl) (w.heap.size + 2) 109 i0 (.agg #[.int .i64 0, .int .i64 0]) 2 16 Tryd.underlying30 hi hz0 hz1 hz2 rfl (by decide) _ i.toNat (cells2 (keysOf bs i.toNat)) (by rfl) (by exact ow_below HO.out (by repeat (first | exact Below.refl _ _ | apply below_drew1 | apply below_alloc))) ⟨wr.heap.size, 0, none⟩ 1 1 [.int .i64 x, .int .i64 (IntKind.i64.wrap y)] (by rfl) rfl (by exact news2_at wr _ _ _) (by exact news2_one _ _) (by decide) (by exact len_ok hn5) (by exact bytes_ok hn5) (by have := HSZ.out; simp; omega) (wr.heap.size + 1) (by simp) ?_; intro g2 cap2 w3 hown hgr hor hlt3; have hblk : w3.heap[w.heap.size + 1]? = wr.heap[w.heap.size + 1]? := grown_blk hgr (Below.heap_alloc _ _ _ (by have := HSZ.out; show w.heap.size + 1 < wr.heap.size; omega)) (by have := HSZ.out; simp; omega) (fun k hk => by have := (ow_block HO.out hk).1; omega); have hs1 : w3.cell? ⟨w.heap.size + 1, 1, none⟩ = some sl := (World.cell?_of_block (w := wr) (a := ⟨w.heap.size + 1, 1, none⟩) hblk).trans hc0; have hs2 : w3.frozen? ⟨w.heap.size + 1, 1, none⟩ = false := (World.frozen?_of_block (w := wr) (a := ⟨w.heap.size + 1, 1, none⟩) hblk).trans hf0))
      all_goals
        have hblkw : ∀ b, b < w.heap.size + 2 → w3.heap[b]? = wr.heap[b]? := fun b hb => grown_blk (v := sl) hgr (Below.heap_alloc _ _ _ (by have := HSZ.out; show b < wr.heap.size; omega)) (by have := HSZ.out; simp; omega) (fun k hk => by have := (ow_block HO.out hk).1; omega)
        have HBW := Aside0.mk hblkw
        have HO3 := Aside0.mk (show w3.ownsRow (w.heap.size + 2) 109 2 (.slice (some ⟨g2, 0, none⟩) (i.toNat + 1) cap2) (i.toNat + 1) (cells2 (keysOf bs (i.toNat + 1))) from by rw [keysOf_succ, cells2_snoc, HKEY.out]; exact hown)
        have HB3 := Aside0.mk (show Below (w.heap.size + 1) (w.alloc (.cells #[.int .i64 0, .slice none 0 0] 32)) w3 from (HBZ.out.trans (Below.mono (below_alloc (Below.refl wr.heap.size wr) (.cells #[.int .i64 x, .int .i64 (IntKind.i64.wrap y)] 109)) (by have := HSZ.out; omega))).grown (w := (wr.alloc (.cells #[.int .i64 x, .int .i64 (IntKind.i64.wrap y)] 109))) (row := sl.ownBlock) ⟨hgr.os, hgr.tape, hgr.output, hgr.size, hgr.block⟩ (by have := HSZ.out; simp; omega) (fun k hk => by have := (ow_block HO.out hk).1; omega))
        have HSZ3 := Aside0.mk (show w.heap.size + 2 ≤ w3.heap.size by have := hgr.size; have := HSZ.out; simp at *; omega)
        have HS1 := Aside0.mk hs1
        have HS2 := Aside0.mk hs2
        clear hblkw hown hgr hor hlt3 hblk hs1 hs2 hi hz0 hz1 hz2 hin hwx
        go_wp2_with fail
        go_roundg (gk - 1)
        case measure => have := HI.out; have := HNN.out; omega
        case rel =>
          refine ⟨i + 1, .slice (some ⟨g2, 0, none⟩) (i.toNat + 1) cap2, rfl, ⟨by omega, by omega, by have := HI.out; have := HNN.out; omega⟩, ⟨by have := HSZ3.out; simpa [World.setCell] using this⟩, ⟨?_, ?_, ?_⟩, ⟨?_⟩, ⟨?_⟩⟩
          · rw [World.cell?_setCell_other _ _ _ _ (by simp), World.cell?_of_block (w := wr) (HBW.out _ (by show w.heap.size + 1 < _; omega))]; exact HC.out.1
          · exact World.cell?_setCell_same _ _ _ HS1.out
          · rw [World.frozen?_setCell]; exact HS2.out
          · rw [show (i + 1).toNat = i.toNat + 1 from by omega]
            exact ow_move HO3.out (fun k hk => Below.heap_setCell _ _ _ _ (by have := (ow_block HO3.out hk).1; show k ≠ w.heap.size + 1; omega))
          · exact HB3.out.setCell (by show w.heap.size + 1 ≤ w.heap.size + 1; omega) _
    · obtain ⟨A', cp, rfl, _⟩ := ow_slice HO.out
      have HN := Aside0.mk (show i = n by have := HI.out; omega)
      have HCNT := Aside0.mk (show i.toNat = cntOf bs by unfold cntOf; rw [HC2.out, ← imin_eq, HMIN.out, HN.out])
      have HP2 := Aside0.mk (show P2 wr 109 (.slice A' i.toNat cp) (keysOf bs (cntOf bs)) from ⟨by have := ow_base HO.out (Nat.zero_le _); rw [← HCNT.out, keysOf_len]; exact this, by rw [keysOf_len, ← HCNT.out]; have := HN.out; omega⟩)
      have HLSN := Aside0.mk (show lsnOf bs = l4 from HL4.out)
      have hc0 := HC.out.1
      have hc1 := HC.out.2.1
      go_wp2_with fail
      refine (bytes_calls a l4 _ _ _ (HS.out.below HB.out) HP2.out).mono ?_
      rintro e w2 ⟨v2, rfl, hv2, hb2⟩
      have HV2 := Aside0.mk hv2
      have HB2 := Aside0.mk hb2
      have hlt2 : w.heap.size + 2 ≤ wr.heap.size := HSZ.out
      have hd0 : w2.cell? ⟨w.heap.size + 1, 0, none⟩ = some (.int .i64 l4) := by rw [hb2.cell (p := ⟨w.heap.size + 1, 0, none⟩) (by show w.heap.size + 1 < wr.heap.size; omega)]; exact hc0
      have hd1 : w2.cell? ⟨w.heap.size + 1, 1, none⟩ = some (.slice A' i.toNat cp) := by rw [hb2.cell (p := ⟨w.heap.size + 1, 1, none⟩) (by show w.heap.size + 1 < wr.heap.size; omega)]; exact hc1
      have hB2 : Below (w.heap.size + 1) (w.alloc (.cells #[.int .i64 0, .slice none 0 0] 32)) w2 := HBZ.out.trans (hb2.mono (by omega))
      have he0 : w2.cell? ⟨w.heap.size, 0, none⟩ = some (.int .i64 0) := by rw [hB2.cell (p := ⟨w.heap.size, 0, none⟩) (by show w.heap.size < w.heap.size + 1; omega)]; simp
      have he1 : w2.cell? ⟨w.heap.size, 1, none⟩ = some (.slice none 0 0) := by rw [hB2.cell (p := ⟨w.heap.size, 1, none⟩) (by show w.heap.size < w.heap.size + 1; omega)]; simp
      have hf0 : w2.frozen? ⟨w.heap.size, 0, none⟩ = false := by rw [hB2.frozen (p := ⟨w.heap.size, 0, none⟩) (by show w.heap.size < w.heap.size + 1; omega)]; simp
      have hf1 : w2.frozen? ⟨w.heap.size, 1, none⟩ = false := by rw [hB2.frozen (p := ⟨w.heap.size, 1, none⟩) (by show w.heap.size < w.heap.size + 1; omega)]; simp
      have HBB2 := Aside0.mk (below_step HB.out hb2)
      have hg1 : w2.cell? ⟨1, 0, none⟩ = some (.iface 163 (.pointer (some (a 6)))) := (HS.out.below HBB2.out).cell 6 (by decide)
      have hgl : 1 < w.heap.size := World.block_lt_of_cell? _ _ (HS.out.cell 6 (by decide))
      have hgn : ¬ (w.heap.size = 1) := by omega
      have hgn' : ¬ (1 = w.heap.size) := by omega
      clear hb2 hv2 hc0 hc1 hB2
      by_cases hok : pageOk l4 (keysOf bs (cntOf bs)) = true
      · have hce : errv a (checkE l4 (keysOf bs (cntOf bs))) = .nilIface := by unfold checkE; rw [if_pos hok]; rfl
        rw [hce]
        have HBV := Aside0.mk (show bytesV l4 (keysOf bs (cntOf bs)) = pageBytes l4 (keysOf bs (cntOf bs)) by unfold bytesV; rw [if_pos hok])
        rw [HBV.out] at HV2
        have heq := equal_calls v2 (.slice A 256 c) (pageBytes l4 (keysOf bs (cntOf bs))) bs w2 HV2.out (BS.below HV.out HBB2.out) (pbN_isB _ _ _) HIB.out
        by_cases hpb : pageBytes l4 (keysOf bs (cntOf bs)) = bs
        · have HRP := Aside0.mk (show readPage bs = some (l4, keysOf bs (cntOf bs)) by unfold readPage; rw [HLSN.out, hok, decide_eq_true hpb]; rfl)
          rw [decide_eq_true hpb] at heq
          have HEQ := Aside0.mk heq
          clear heq hce
          go_wp2_with fail
          refine HEQ.out.mono ?_
          rintro e w' ⟨rfl, rfl⟩
          go_wp2_with fail
          exact bodyPost_ret (v := .tuple #[.agg #[.int .i64 l4, .slice A' i.toNat cp], .nilIface]) (by simp [results, Tryd.results24, go_sem, he0, he1, hf0, hf1]) rfl ⟨.slice A' i.toNat cp, by rw [HRP.out]; rfl, by
            rw [HRP.out]
            show P2 _ _ (.slice A' i.toNat cp) (keysOf bs (cntOf bs))
            refine ⟨ow_move (P2.below HP2.out HB2.out).1 (fun k hk => ?_), HP2.out.2⟩
            have hk2 : w.heap.size + 2 ≤ k := (ow_block HO.out hk).1
            rw [Below.heap_setCell _ _ _ _ (by show k ≠ w.heap.size; omega), Below.heap_setCell _ _ _ _ (by show k ≠ w.heap.size; omega)], (HBB2.out.setCell (Nat.le_refl _) _).setCell (Nat.le_refl _) _⟩
        · have HRP := Aside0.mk (show readPage bs = none by unfold readPage; rw [HLSN.out, hok, decide_eq_false hpb]; rfl)
          rw [decide_eq_false hpb] at heq
          have HEQ := Aside0.mk heq
          clear heq hce
          go_wp2_with fail
          refine HEQ.out.mono ?_
          rintro e w' ⟨rfl, rfl⟩
          go_wp2_with fail
          go_region
          all_goals
            go_wp2_with fail
            exact bodyPost_ret (v := .tuple #[.agg #[.int .i64 0, .slice none 0 0], .iface 163 (.pointer (some (a 6)))]) (by simp [results, Tryd.results24, go_sem, he0, he1, hf0, hf1]) rfl ⟨.slice none 0 0, by rw [HRP.out]; rfl, by
              rw [HRP.out]
              exact P2.nil _ _, by repeat (first | exact (HBB2.out.setCell (Nat.le_refl _) _).setCell (Nat.le_refl _) _ | apply pw_below_drewN | apply below_drew1)⟩
      · have hce : errv a (checkE l4 (keysOf bs (cntOf bs))) = .iface 163 (.pointer (some (a 1))) := by unfold checkE; rw [if_neg hok]; rfl
        rw [hce]
        have HRP := Aside0.mk (show readPage bs = none by unfold readPage; rw [HLSN.out, Bool.eq_false_iff.2 hok]; rfl)
        clear hce
        go_wp2_with fail
        go_region
        all_goals
          go_wp2_with fail
          exact bodyPost_ret (v := .tuple #[.agg #[.int .i64 0, .slice none 0 0], .iface 163 (.pointer (some (a 6)))]) (by simp [results, Tryd.results24, go_sem, he0, he1, hf0, hf1]) rfl ⟨.slice none 0 0, by rw [HRP.out]; rfl, by
            rw [HRP.out]
            exact P2.nil _ _, by repeat (first | exact (HBB2.out.setCell (Nat.le_refl _) _).setCell (Nat.le_refl _) _ | apply pw_below_drewN | apply below_drew1)⟩

end Go.Proofs.YtlgpkbhajloajaaDoor.PageR
/- A page's sector, read again, is the page. No condition. -/
namespace Go.Proofs.YtlgpkbhajloajaaDoor.PageL
open Go.RowKit Go.Proofs.YtlgpkbhajloajaaDoor.See Go.Proofs.YtlgpkbhajloajaaDoor.Mem Go.Proofs.YtlgpkbhajloajaaDoor.Clone Go.Proofs.YtlgpkbhajloajaaDoor.Cell Go.Proofs.YtlgpkbhajloajaaDoor.Page Go.Proofs.YtlgpkbhajloajaaDoor.PageB Go.Proofs.YtlgpkbhajloajaaDoor.PageR
set_option linter.unusedVariables false
set_option linter.unusedSimpArgs false

theorem putL_same (bs : List Int) (a d : Nat) (n : Int) (h : a + d ≤ bs.length) : fld (putL bs a d n) a d = n % 256 ^ d := by
  unfold fld putL
  have h1 : (bs.take a).length = a := by rw [List.length_take]; omega
  rw [List.drop_append_of_le_length (by omega), List.drop_of_length_le (by omega), List.nil_append, List.take_append_of_le_length (by rw [leB_length]; omega), List.take_of_length_le (by rw [leB_length]; omega), le_leB]

theorem putL_apart (bs : List Int) (a d : Nat) (n : Int) (a' d' : Nat) (h : a + d ≤ bs.length) (hd : a' + d' ≤ a ∨ a + d ≤ a') : fld (putL bs a d n) a' d' = fld bs a' d' := by
  have h1 : (bs.take a).length = a := by rw [List.length_take]; omega
  unfold fld putL
  congr 1
  apply List.ext_getElem?
  intro i
  by_cases hi : i < d'
  · rw [List.getElem?_take, if_pos hi, List.getElem?_take, if_pos hi, List.getElem?_drop, List.getElem?_drop]
    rcases hd with hd | hd
    · rw [List.getElem?_append_left (by omega), List.getElem?_take, if_pos (by omega)]
    · rw [List.getElem?_append_right (by omega), h1, List.getElem?_append_right (by rw [leB_length]; omega), leB_length, List.getElem?_drop]
      congr 1; omega
  · rw [List.getElem?_take, if_neg hi, List.getElem?_take, if_neg hi]

set_option maxRecDepth 100000 in
theorem u64_id {n : Int} (h0 : 0 ≤ n) (h1 : n < 18446744073709551616) : IntKind.u64.wrap n = n := wrap64u h0 (by exact h1)

theorem z256 : 0 + 4 ≤ (List.replicate 256 (0 : Int)).length := by rw [List.length_replicate]; omega

theorem pbN_lsn (lsn : Int) (es : List (Int × Int)) (h0 : 0 ≤ lsn) (h1 : lsn ≤ 1073741824) : ∀ i, i ≤ 20 → fld (pbN lsn es i) 0 4 = lsn
  | 0, _ => by
    unfold pbN
    rw [putL_apart _ _ _ _ _ _ (by rw [putL_length _ _ _ _ z256, List.length_replicate]; omega) (by omega), putL_same _ _ _ _ z256, u64_id h0 (by omega)]
    exact Int.emod_eq_of_lt h0 (by omega)
  | i + 1, h => by
    have hl := pbN_len lsn es i (by omega)
    unfold pbN
    split
    · exact pbN_lsn lsn es h0 h1 i (by omega)
    · unfold pbAdd
      rw [putL_apart _ _ _ _ _ _ (by rw [putL_length _ _ _ _ (by omega)]; omega) (by omega), putL_apart _ _ _ _ _ _ (by omega) (by omega)]
      exact pbN_lsn lsn es h0 h1 i (by omega)

theorem pbN_cnt (lsn : Int) (es : List (Int × Int)) (hn : es.length ≤ 20) : ∀ i, i ≤ 20 → fld (pbN lsn es i) 4 2 = es.length
  | 0, _ => by
    unfold pbN
    rw [putL_same _ _ _ _ (by rw [putL_length _ _ _ _ z256, List.length_replicate]; omega), u64_id (by omega) (by omega)]
    exact Int.emod_eq_of_lt (by omega) (by omega)
  | i + 1, h => by
    have hl := pbN_len lsn es i (by omega)
    unfold pbN
    split
    · exact pbN_cnt lsn es hn i (by omega)
    · unfold pbAdd
      rw [putL_apart _ _ _ _ _ _ (by rw [putL_length _ _ _ _ (by omega)]; omega) (by omega), putL_apart _ _ _ _ _ _ (by omega) (by omega)]
      exact pbN_cnt lsn es hn i (by omega)

/-- A number that is an int64. -/
def is64 (n : Int) : Prop := -9223372036854775808 ≤ n ∧ n ≤ 9223372036854775807

set_option maxRecDepth 100000 in
theorem wrap_back {n : Int} (h : is64 n) : IntKind.i64.wrap (IntKind.u64.wrap n % 256 ^ 8) = n := by
  obtain ⟨h1, h2⟩ := h
  have e : IntKind.u64.wrap n = n % 18446744073709551616 := by
    simp only [IntKind.wrap, IntKind.bits, IntKind.signed, Bool.false_and]
    rw [if_neg (by simp)]; rfl
  rw [e]
  have e2 : n % 18446744073709551616 % 256 ^ 8 = n % 18446744073709551616 := Int.emod_eq_of_lt (Int.emod_nonneg _ (by decide)) (Int.emod_lt_of_pos _ (by decide))
  rw [e2]
  simp only [IntKind.wrap, IntKind.bits, IntKind.signed]
  by_cases hn : 0 ≤ n
  · rw [Int.emod_eq_of_lt hn (by omega)]
    simp
    omega
  · have : n % 18446744073709551616 = n + 18446744073709551616 := by omega
    rw [this]
    simp
    omega

theorem pbN_key (lsn : Int) (es : List (Int × Int)) (hk : ∀ e ∈ es, 0 ≤ e.1 ∧ e.1 < 1048576 ∧ is64 e.2) : ∀ i, i ≤ 20 → i ≤ es.length → ∀ k e, k < i → es[k]? = some e → keyAt (pbN lsn es i) k = e
  | 0, _, _, k, e, h, _ => by omega
  | i + 1, h, hn, k, e, hki, he => by
    have hl := pbN_len lsn es i (by omega)
    obtain ⟨x, hx⟩ : ∃ x, es[i]? = some x := ⟨_, List.getElem?_eq_getElem (by omega)⟩
    obtain ⟨k0, k1, k2⟩ := hk x (List.mem_of_getElem? hx)
    have hl2 : (putL (pbN lsn es i) (16 + 12 * i) 4 (IntKind.u64.wrap x.1)).length = 256 := by rw [putL_length _ _ _ _ (by omega), hl]
    rw [pbN, hx]
    simp only [keyAt, pbAdd]
    rcases (show k < i ∨ k = i by omega) with h1 | h1
    · have := pbN_key lsn es hk i (by omega) (by omega) k e h1 he
      unfold keyAt at this
      rw [putL_apart _ _ _ _ _ _ (by omega) (by omega), putL_apart _ _ _ _ _ _ (by omega) (by omega), putL_apart _ _ _ _ _ _ (by omega) (by omega), putL_apart _ _ _ _ _ _ (by omega) (by omega)]
      exact this
    · subst h1
      rw [he] at hx
      obtain rfl := Option.some.inj hx
      rw [putL_apart _ _ _ _ _ _ (by omega) (by omega), putL_same _ _ _ _ (by omega), putL_same _ _ _ _ (by omega), u64_id k0 (by omega), wrap_back k2]
      rw [Int.emod_eq_of_lt k0 (by omega)]

/-- A page's keys are what they may be; its values are int64s. -/
def PageV (lsn : Int) (es : List (Int × Int)) : Prop := pageOk lsn es = true ∧ ∀ e ∈ es, is64 e.2

theorem page_back {lsn : Int} {es : List (Int × Int)} (h : PageV lsn es) : readPage (pageBytes lsn es) = some (lsn, es) := by
  obtain ⟨h, hv⟩ := h
  obtain ⟨h0, h1, h2⟩ := head_facts (headOk_of h)
  have hk : ∀ e ∈ es, 0 ≤ e.1 ∧ e.1 < 1048576 ∧ is64 e.2 := fun e he => by
    obtain ⟨k, hk, hke⟩ := List.getElem_of_mem he
    have := keyOk_of h hk
    unfold keyOk at this
    rw [List.getElem?_eq_getElem hk, hke] at this
    simp at this
    exact ⟨this.1.1, this.1.2, hv e he⟩
  have e1 : lsnOf (pageBytes lsn es) = lsn := pbN_lsn lsn es h0 h1 _ h2
  have e2 : cntOf (pageBytes lsn es) = es.length := by
    unfold cntOf pageBytes
    rw [pbN_cnt lsn es h2 _ h2]; omega
  have e3 : keysOf (pageBytes lsn es) es.length = es := by
    apply List.ext_getElem?
    intro k
    unfold keysOf
    rw [List.getElem?_map]
    by_cases hkl : k < es.length
    · obtain ⟨x, hx⟩ : ∃ x, es[k]? = some x := ⟨_, List.getElem?_eq_getElem hkl⟩
      rw [hx]
      simp [hkl]
      exact pbN_key lsn es hk _ h2 (Nat.le_refl _) k x hkl hx
    · rw [List.getElem?_eq_none (show es.length ≤ k by omega)]
      simp; omega
  unfold readPage
  rw [e1, e2, e3, h]
  simp

theorem pageBytes_ok (lsn : Int) (es : List (Int × Int)) (h : es.length ≤ 20) : (pageBytes lsn es).length = 256 ∧ IsB (pageBytes lsn es) := ⟨pbN_len lsn es _ h, pbN_isB lsn es _⟩

end Go.Proofs.YtlgpkbhajloajaaDoor.PageL
/- The contracts of phoenixref.Placed, and of phoenixsee.Fault and phoenixsee.Same at an error that has a place. No condition but that api's errors are what their text says. -/
namespace Go.Proofs.YtlgpkbhajloajaaDoor.SeeAt
open Go.RowKit Go.Proofs.YtlgpkbhajloajaaDoorW.PrintWords Go.Proofs.YtlgpkbhajloajaaDoorW.PrintLast Go.Proofs.YtlgpkbhajloajaaDoorW.PrintMore
open Go.Proofs.YtlgpkbhajloajaaDoor.See Go.Proofs.YtlgpkbhajloajaaDoor.Mem
attribute [local go_sem] as_no as_yes
set_option linter.unusedVariables false
set_option linter.unusedSimpArgs false

set_option maxHeartbeats 1000000 in
set_option maxRecDepth 100000 in
theorem placed_calls (c p : Int) (hc : c ≠ 0) (w : World) : Calls Tryd.prog 18 #[.int .i64 c, .int .i64 p] w fun e w' => e = .returned (flt c true p) ∧ Below w.heap.size w w' := by
  have hz : (c == 0) = false := by simp [hc]
  go_enter Tryd.func18, Tryd.ntmps18
  go_wp2_with fail
  exact bodyPost_ret (v := flt c true p) (by simp [results, Tryd.results18, go_sem]) rfl ⟨rfl, by repeat (first | exact Below.refl _ _ | apply pw_below_drewN | apply below_drew1 | apply below_alloc | (apply Below.setCell _ (Nat.le_refl _)))⟩

/-- An error that has a place. -/
def AtV (a : Nat → Addr) (w : World) (pos : Int) (k : Nat) (v : Value) : Prop := ∃ b, v = .iface 80 (.pointer (some ⟨b, 0, none⟩)) ∧ w.heap[b]? = some (.cells #[.int .i64 pos, .iface 163 (.pointer (some (a k)))] 82 (0, 0))
theorem AtV.below {a : Nat → Addr} {w w' : World} {pos : Int} {k : Nat} {v : Value} (h : AtV a w pos k v) (hb : Below w.heap.size w w') : AtV a w' pos k v := by
  obtain ⟨b, e, hc⟩ := h
  exact ⟨b, e, (hb.block b (heap_lt hc)).trans hc⟩

theorem AtV.frm {T : List Nat} {M : Nat → Prop} {a : Nat → Addr} {w w' : World} {pos : Int} {k : Nat} {v : Value} (h : AtV a w pos k v) (hf : Frm T M w w') (hT : 82 ∉ T) : AtV a w' pos k v := by
  obtain ⟨b, e, hc⟩ := h
  exact ⟨b, e, hf.at hc (.inl hT)⟩

set_option maxHeartbeats 2000000 in
set_option maxRecDepth 100000 in
theorem fault_at (a : Nat → Addr) (pos : Int) (k : Nat) (v : Value) (hk : k < 18) (w : World) (h : SentsAll w a) (hv : AtV a w pos k v) :
    Calls Tryd.prog 40 #[v] w fun e w' => e = .returned (flt (101 + (k : Int)) true pos) ∧ Below w.heap.size w w' := by
  have HS := Aside0.mk h
  obtain ⟨b, rfl, hb⟩ := hv
  obtain ⟨x, hx⟩ : ∃ x, a k = x := ⟨_, rfl⟩
  have HX := Aside0.mk hx
  rw [hx] at hb
  have hc0 : w.cell? ⟨b, 0, none⟩ = some (.int .i64 pos) := by simp [World.cell?, hb]
  have hc1 : w.cell? ⟨b, 1, none⟩ = some (.iface 163 (.pointer (some x))) := by simp [World.cell?, hb]
  have hbl := heap_lt hb
  have h101 : (101 + (k : Int)) ≠ 0 := by omega
  clear h hx hb
  go_enter Tryd.func40, Tryd.ntmps40
  go_wp2_with fail
  go_region_held3 (fun w' => w'.cell? ⟨b, 0, none⟩ = some (.int .i64 pos) ∧ w'.cell? ⟨b, 1, none⟩ = some (.iface 163 (.pointer (some x))))
    (refine ⟨?_, ?_⟩ <;> (first | go_keep | exact hk0 | exact hk1 | exact hk2 | exact hk3 | (rw [World.cell?_setCell_other _ _ _ _ (by first | (simp; done) | (simp; omega)), World.cell?_setCell_other _ _ _ _ (by first | (simp; done) | (simp; omega)), World.cell?_setCell_other _ _ _ _ (by first | (simp; done) | (simp; omega))]; first | exact hk0 | exact hk1 | exact hk2 | exact hk3)))
    (first | (go_at_call 18; refine (placed_calls _ _ h101 _).mono ?_; rintro e w2 ⟨rfl, hb2⟩; have hk2 : w2.cell? ⟨b, 0, none⟩ = some (.int .i64 pos) := pw_cell_below hb2 hk0; have hk3 : w2.cell? ⟨b, 1, none⟩ = some (.iface 163 (.pointer (some x))) := pw_cell_below hb2 hk1; have hd0 : w2.cell? ⟨w.heap.size, 0, none⟩ = some (.int .i64 0) := pw_cell_below hb2 he0; have hd1 : w2.cell? ⟨w.heap.size, 1, none⟩ = some (.bool false) := pw_cell_below hb2 he1; have hd2 : w2.cell? ⟨w.heap.size, 2, none⟩ = some (.int .i64 0) := pw_cell_below hb2 he2; have hg0 : w2.frozen? ⟨w.heap.size, 0, none⟩ = false := (hb2.frozen (p := ⟨w.heap.size, 0, none⟩) hzz).trans hf0; have hg1 : w2.frozen? ⟨w.heap.size, 1, none⟩ = false := (hb2.frozen (p := ⟨w.heap.size, 1, none⟩) hzz).trans hf1; have hg2 : w2.frozen? ⟨w.heap.size, 2, none⟩ = false := (hb2.frozen (p := ⟨w.heap.size, 2, none⟩) hzz).trans hf2) | (go_at_call 60; refine (sentinel_at a k hk x HX.out _ (by exact HS.out.below (by repeat (first | exact Below.refl _ _ | apply below_drew1 | apply below_alloc)))).mono ?_; rintro e w1 ⟨rfl, hb1⟩; have hk0 : w1.cell? ⟨b, 0, none⟩ = some (.int .i64 pos) := pw_cell_below hb1 (by show (w.alloc _).cell? _ = _; rw [World.cell?_alloc_lt _ _ _ (by exact hbl)]; exact hc0); have hk1 : w1.cell? ⟨b, 1, none⟩ = some (.iface 163 (.pointer (some x))) := pw_cell_below hb1 (by show (w.alloc _).cell? _ = _; rw [World.cell?_alloc_lt _ _ _ (by exact hbl)]; exact hc1); have he0 : w1.cell? ⟨w.heap.size, 0, none⟩ = some (.int .i64 0) := pw_cell_below hb1 (by simp); have he1 : w1.cell? ⟨w.heap.size, 1, none⟩ = some (.bool false) := pw_cell_below hb1 (by simp); have he2 : w1.cell? ⟨w.heap.size, 2, none⟩ = some (.int .i64 0) := pw_cell_below hb1 (by simp); have hzz : w.heap.size < w1.heap.size := World.block_lt_of_cell? _ _ he0; have hf0 : w1.frozen? ⟨w.heap.size, 0, none⟩ = false := (hb1.frozen (p := ⟨w.heap.size, 0, none⟩) (by simp)).trans (by simp); have hf1 : w1.frozen? ⟨w.heap.size, 1, none⟩ = false := (hb1.frozen (p := ⟨w.heap.size, 1, none⟩) (by simp)).trans (by simp); have hf2 : w1.frozen? ⟨w.heap.size, 2, none⟩ = false := (hb1.frozen (p := ⟨w.heap.size, 2, none⟩) (by simp)).trans (by simp)))
  have HB := Aside0.mk (below_step (below_step (by repeat (first | exact Below.refl w.heap.size w | apply below_drew1 | apply below_alloc)) hb1) hb2)
  clear hb1 hb2 hk0 hk1 hk2 hk3 he0 he1 he2 hf0 hf1 hf2
  go_wp2_with fail
  exact bodyPost_ret (v := flt (101 + (k : Int)) true pos) (by simp [results, Tryd.results40, go_sem, hd0, hd1, hd2]) rfl ⟨rfl, ((HB.out.setCell (Nat.le_refl _) _).setCell (Nat.le_refl _) _).setCell (Nat.le_refl _) _⟩

set_option maxHeartbeats 1000000 in
set_option maxRecDepth 100000 in
theorem same_at (a : Nat → Addr) (pos : Int) (k : Nat) (v : Value) (hk : k < 18) (d : Int) (q : Bool) (n : Int) (w : World) (h : SentsAll w a) (hv : AtV a w pos k v) :
    Calls Tryd.prog 17 #[v, flt d q n] w fun e w' => e = .returned (.bool ((101 + (k : Int)) == d && true == q && pos == n)) ∧ Below w.heap.size w w' := by
  have HS := Aside0.mk h
  have HV := Aside0.mk hv
  have HK := Aside0.mk hk
  clear h hv hk
  go_enter Tryd.func17, Tryd.ntmps17
  go_wp2_with fail
  go_region_held3 (fun w' => w'.cell? ⟨w.heap.size, 0, none⟩ = some (.int .i64 d) ∧ w'.cell? ⟨w.heap.size, 1, none⟩ = some (.bool q) ∧ w'.cell? ⟨w.heap.size, 2, none⟩ = some (.int .i64 n))
    (refine ⟨?_, ?_, ?_⟩ <;> (first | go_keep | (rw [hk]; go_keep) | (rw [hk2]; first | go_keep | (rw [hk]; go_keep))))
    (first | (go_at_call 40; refine (fault_at a pos k v HK.out _ (by exact HS.out.below (by repeat (first | exact Below.refl _ _ | apply below_drew1 | apply below_alloc))) (by exact HV.out.below (by repeat (first | exact Below.refl _ _ | apply below_drew1 | apply below_alloc)))).mono ?_; rintro e w1 ⟨rfl, hb⟩; have hk : ∀ o, w1.cell? ⟨w.heap.size, o, none⟩ = _ := fun o => hb.cell (p := ⟨w.heap.size, o, none⟩) (by simp)) | (go_at_call 39; refine (samefault_calls _ _ _ _ _ _ _).mono ?_; rintro e w2 ⟨rfl, hb2⟩; have hk2 : ∀ o, w2.cell? ⟨w.heap.size, o, none⟩ = _ := fun o => hb2.cell (p := ⟨w.heap.size, o, none⟩) (by have := hb.size; simp at this; simp; omega)))
  clear hk hk2
  go_wp2
  go_ret
  exact ⟨by simp, below_step (below_step (by repeat (first | exact Below.refl _ _ | apply below_drew1 | apply below_alloc)) hb) hb2⟩

end Go.Proofs.YtlgpkbhajloajaaDoor.SeeAt
