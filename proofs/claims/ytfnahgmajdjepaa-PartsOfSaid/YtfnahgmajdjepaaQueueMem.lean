/- Queues in memory: a row of pairs (a page, a slice of one number), each slice in a block of its own. No condition. -/
import Derived.Test.YtfnahgmajdjepaaOwner
import Derived.Deep.AppendLies
namespace Go.Proofs.Ytfnahgmajdjepaa.QueueMem
open Go.RowKit Go.Proofs.Ytfnahgmajdjepaa.PPlaceSays Go.Proofs.YtfnahgmajdjepaaW.PrintWords Go.Proofs.YtfnahgmajdjepaaW.PrintLast Go.Proofs.YtfnahgmajdjepaaW.PrintMore
open Go.Proofs.Ytfnahgmajdjepaa.Facts Go.Proofs.Ytfnahgmajdjepaa.Owner
set_option linter.unusedVariables false
set_option linter.unusedSimpArgs false

/-- A queue of one record: its page, the record, the block and the capacity of its slice. -/
structure It where
  page : Int
  x : Int
  d : Nat
  c : Nat

def cells (ps : List It) : List Value := ps.flatMap fun t => [.int .i64 t.page, .slice (some ⟨t.d, 0, none⟩) 1 t.c]

theorem cells_len : ∀ ps : List It, (cells ps).length = ps.length * 2
  | [] => rfl
  | t :: ps => by
    have := cells_len ps
    unfold cells at this ⊢
    simp [List.flatMap_cons, this]; omega

theorem cells_snoc (ps : List It) (t : It) : cells (ps ++ [t]) = cells ps ++ [.int .i64 t.page, .slice (some ⟨t.d, 0, none⟩) 1 t.c] := by
  unfold cells
  simp [List.flatMap_append]

theorem cells_at : ∀ (ps : List It) (i : Nat) (t : It), ps[i]? = some t → (cells ps)[i * 2]? = some (.int .i64 t.page) ∧ (cells ps)[i * 2 + 1]? = some (.slice (some ⟨t.d, 0, none⟩) 1 t.c)
  | [], i, t, h => by simp at h
  | s :: ps, 0, t, h => by
    simp at h; subst h
    exact ⟨by simp [cells, List.flatMap_cons], by simp [cells, List.flatMap_cons]⟩
  | s :: ps, i + 1, t, h => by
    have := cells_at ps i t (by simpa using h)
    have e : cells (s :: ps) = [.int .i64 s.page, .slice (some ⟨s.d, 0, none⟩) 1 s.c] ++ cells ps := by simp [cells, List.flatMap_cons]
    rw [e, List.getElem?_append_right (by simp; omega), List.getElem?_append_right (by simp; omega)]
    simp only [List.length_cons, List.length_nil]
    rw [show (i + 1) * 2 - (0 + 1 + 1) = i * 2 from by omega, show (i + 1) * 2 + 1 - (0 + 1 + 1) = i * 2 + 1 from by omega]
    exact this

/-- Its slice's block holds the record first. -/
def Inner (W : World) (t : It) : Prop := ∃ cur, W.heap[t.d]? = some (.cells cur 3 (0, 0)) ∧ cur[0]? = some (.int .i64 t.x)

/-- Queues in memory. -/
structure Items (W : World) (base : Nat) (v : Value) (ps : List It) : Prop where
  row : W.ownsRow base 36 2 v ps.length (cells ps)
  inner : ∀ t ∈ ps, Inner W t
  low : ∀ t ∈ ps, base ≤ t.d
  nodup : (ps.map (·.d)).Nodup

theorem heap_lt {W : World} {b : Nat} {o : Obj} (h : W.heap[b]? = some o) : b < W.heap.size := by
  rcases Nat.lt_or_ge b W.heap.size with h' | h'
  · exact h'
  · rw [Array.getElem?_eq_none h'] at h; cases h

theorem Inner.lt {W : World} {t : It} (h : Inner W t) : t.d < W.heap.size := by
  obtain ⟨cur, h1, _⟩ := h; exact heap_lt h1

theorem Items.nil (W : World) (base : Nat) : Items W base (.slice none 0 0) [] :=
  ⟨⟨rfl, .inl ⟨rfl, rfl⟩⟩, fun t h => by simp at h, fun t h => by simp at h, by simp⟩

theorem row_block {W : World} {base n : Nat} {v : Value} {xs : List Value} (h : W.ownsRow base 36 2 v n xs) {k : Nat} (hk : v.ownBlock = some k) : base ≤ k ∧ ∃ cur, W.heap[k]? = some (.cells cur 36 (0, 0)) := by
  rcases h.2 with ⟨rfl, _⟩ | ⟨g, cap, cur, rfl, hg, hh, r⟩
  · simp [Value.ownBlock] at hk
  · have : g = k := by simpa [Value.ownBlock] using hk
    subst this
    exact ⟨hg, cur, hh⟩

theorem Inner.ne_row {W : World} {base n : Nat} {v : Value} {xs : List Value} (h : W.ownsRow base 36 2 v n xs) {t : It} (ht : Inner W t) : some t.d ≠ v.ownBlock := by
  intro e
  obtain ⟨_, cur, hc⟩ := row_block h e.symm
  obtain ⟨cur', hc', _⟩ := ht
  rw [hc] at hc'
  injection hc' with hc'
  injection hc' with _ h2
  exact absurd h2 (by decide)

theorem Inner.below {W W1 : World} {t : It} (h : Inner W t) (hb : Below W.heap.size W W1) : Inner W1 t := by
  obtain ⟨cur, h1, h2⟩ := h
  exact ⟨cur, (hb.block _ (heap_lt h1)).trans h1, h2⟩

theorem own_below {W W1 : World} {base e size n : Nat} {v : Value} {xs : List Value} (h : W.ownsRow base e size v n xs) (hb : Below W.heap.size W W1) : W1.ownsRow base e size v n xs :=
  own_move h (fun k hk => by
    rcases h.2 with ⟨rfl, _⟩ | ⟨g, cap, cur, rfl, hg, hh, r⟩
    · simp [Value.ownBlock] at hk
    · have : g = k := by simpa [Value.ownBlock] using hk
      subst this
      exact hb.block _ (heap_lt hh))

theorem Items.below {W W1 : World} {base : Nat} {v : Value} {ps : List It} (h : Items W base v ps) (hb : Below W.heap.size W W1) : Items W1 base v ps :=
  ⟨own_below h.row hb, fun t ht => (h.inner t ht).below hb, h.low, h.nodup⟩

theorem Inner.grown {W W1 : World} {t : It} (h : Inner W t) {row : Option Nat} (hg : W.grownBy W1 row) (hne : some t.d ≠ row) : Inner W1 t := by
  obtain ⟨cur, h1, h2⟩ := h
  exact ⟨cur, (hg.block _ (heap_lt h1) hne).trans h1, h2⟩

/-- A queue more. -/
theorem Items.snoc {W W1 : World} {base : Nat} {v v1 : Value} {ps : List It} {t : It} (h : Items W base v ps) (hr : W1.ownsRow base 36 2 v1 (ps.length + 1) (cells ps ++ [.int .i64 t.page, .slice (some ⟨t.d, 0, none⟩) 1 t.c])) (hg : W.grownBy W1 v.ownBlock)
    (ht : Inner W t) (hl : base ≤ t.d) (hn : ∀ s ∈ ps, s.d ≠ t.d) : Items W1 base v1 (ps ++ [t]) := by
  refine ⟨?_, ?_, ?_, ?_⟩
  · rw [cells_snoc, List.length_append]; exact hr
  · intro s hs
    rcases List.mem_append.1 hs with hs | hs
    · exact (h.inner s hs).grown hg ((h.inner s hs).ne_row h.row)
    · obtain rfl : s = t := by simpa using hs
      exact ht.grown hg (ht.ne_row h.row)
  · intro s hs
    rcases List.mem_append.1 hs with hs | hs
    · exact h.low s hs
    · obtain rfl : s = t := by simpa using hs
      exact hl
  · rw [List.map_append, List.nodup_append]
    refine ⟨h.nodup, by simp, ?_⟩
    intro a ha b hb
    obtain ⟨s, hs, rfl⟩ := List.mem_map.1 ha
    obtain rfl : b = t.d := by simpa using hb
    exact hn s hs

/-- What is read of it: the cells of its row, its slice's first cell. -/
theorem Items.at {W : World} {base : Nat} {v : Value} {ps : List It} (h : Items W base v ps) {i : Nat} {t : It} (hi : ps[i]? = some t) :
    ∃ g cap, v = .slice (some ⟨g, 0, none⟩) ps.length cap ∧ W.cell? ⟨g, i * 2, none⟩ = some (.int .i64 t.page) ∧ W.cell? ⟨g, i * 2 + 1, none⟩ = some (.slice (some ⟨t.d, 0, none⟩) 1 t.c) ∧
      W.cell? ⟨t.d, 0, none⟩ = some (.int .i64 t.x) ∧ W.frozen? ⟨t.d, 0, none⟩ = false ∧ base ≤ g ∧ g < W.heap.size := by
  have hlt : i < ps.length := (List.getElem?_eq_some_iff.1 hi).1
  rcases h.row.2 with ⟨_, h0⟩ | ⟨g, cap, cur, rfl, hg, hh, hnc, hcm, hsz, htk⟩
  · omega
  · obtain ⟨c0, c1⟩ := cells_at ps i t hi
    rw [← htk, List.getElem?_take, if_pos (by omega)] at c0
    rw [← htk, List.getElem?_take, if_pos (by omega)] at c1
    obtain ⟨cu, hcu, hcx⟩ := h.inner t (List.mem_of_getElem? hi)
    refine ⟨g, cap, rfl, ?_, ?_, ?_, ?_, hg, heap_lt hh⟩
    · simp only [World.cell?, hh]; simpa using c0
    · simp only [World.cell?, hh]; simpa using c1
    · simp only [World.cell?, hcu]; simpa using hcx
    · simp [World.frozen?, hcu]

theorem Items.slice {W : World} {base : Nat} {v : Value} {ps : List It} (h : Items W base v ps) : ∃ A cap, v = .slice A ps.length cap := by
  rcases h.row.2 with ⟨e, h0⟩ | ⟨g, cap, cur, rfl, _⟩
  · exact ⟨none, 0, by rw [e, h0]⟩
  · exact ⟨_, cap, rfl⟩

/-- One record of them written anew. -/
theorem Items.put {W : World} {base : Nat} {v : Value} {ps : List It} (h : Items W base v ps) {i : Nat} {t : It} (hi : ps[i]? = some t) (y : Int) :
    Items (W.setCell ⟨t.d, 0, none⟩ (.int .i64 y)) base v (ps.set i { t with x := y }) := by
  have hlt : i < ps.length := (List.getElem?_eq_some_iff.1 hi).1
  have hm := List.mem_of_getElem? hi
  have hcells : cells (ps.set i { t with x := y }) = cells ps := by
    have hgt : ps[i] = t := (List.getElem?_eq_some_iff.1 hi).2
    have e : ps.set i { t with x := y } = ps.take i ++ { t with x := y } :: ps.drop (i + 1) := by rw [List.set_eq_take_append_cons_drop, if_pos hlt]
    have e2 : ps = ps.take i ++ t :: ps.drop (i + 1) := by
      have := List.take_append_drop i ps
      rw [List.drop_eq_getElem_cons hlt, hgt] at this
      exact this.symm
    rw [e]
    conv => rhs; rw [e2]
    unfold cells
    simp [List.flatMap_append, List.flatMap_cons]
  have hmap : (ps.set i { t with x := y }).map (·.d) = ps.map (·.d) := by
    rw [List.map_set]
    apply List.ext_getElem?
    intro j
    rw [List.getElem?_set]
    by_cases e : i = j
    · subst e
      simp [hlt, (List.getElem?_eq_some_iff.1 hi).2]
    · simp [e]
  refine ⟨?_, ?_, ?_, ?_⟩
  · rw [List.length_set, hcells]
    refine own_move h.row (fun k hk => ?_)
    exact Below.heap_setCell _ _ _ _ (by
      intro e
      exact (h.inner t hm).ne_row h.row (by rw [hk]; simp [e]))
  · intro s hs
    obtain ⟨j, hj, hjs⟩ := List.getElem_of_mem hs
    rw [List.length_set] at hj
    rw [List.getElem_set] at hjs
    by_cases e : i = j
    · rw [if_pos e] at hjs
      subst hjs
      obtain ⟨cur, h1, h2⟩ := h.inner t hm
      obtain ⟨cl⟩ := cur
      refine ⟨(cl.set 0 (.int .i64 y)).toArray, ?_, ?_⟩
      · have := heap_setCell_same W t.d 0 ⟨cl⟩ 3 (.int .i64 y) h1
        rw [this]; simp
      · cases cl with
        | nil => simp at h2
        | cons a l => simp
    · rw [if_neg e] at hjs
      subst hjs
      obtain ⟨cur, h1, h2⟩ := h.inner ps[j] (List.getElem_mem hj)
      refine ⟨cur, ?_, h2⟩
      rw [Below.heap_setCell _ _ _ _ (by
        intro e2
        have hp := List.pairwise_iff_getElem.1 h.nodup
        have hgt : ps[i] = t := (List.getElem?_eq_some_iff.1 hi).2
        rcases Nat.lt_or_gt_of_ne e with h3 | h3
        · exact hp i j (by simpa using hlt) (by simpa using hj) h3 (by simp [hgt]; exact e2.symm)
        · exact hp j i (by simpa using hj) (by simpa using hlt) h3 (by simp [hgt]; exact e2))]
      exact h1
  · intro s hs
    have : s.d ∈ (ps.set i { t with x := y }).map (·.d) := List.mem_map_of_mem hs
    rw [hmap] at this
    obtain ⟨u, hu, he⟩ := List.mem_map.1 this
    rw [← he]; exact h.low u hu
  · rw [hmap]; exact h.nodup

/-- Others, that lie below, are as they were. -/
theorem Items.apart {W : World} {base B : Nat} {v : Value} {ps : List It} (h : Items W base v ps) (hv : ∀ k, v.ownBlock = some k → k < B) (hp : ∀ t ∈ ps, t.d < B) (a : Addr) (ha : B ≤ a.block) (u : Value) : Items (W.setCell a u) base v ps := by
  refine ⟨own_move h.row (fun k hk => Below.heap_setCell _ _ _ _ (by have := hv k hk; omega)), fun t ht => ?_, h.low, h.nodup⟩
  obtain ⟨cur, h1, h2⟩ := h.inner t ht
  exact ⟨cur, (Below.heap_setCell _ _ _ _ (by have := hp t ht; omega)).trans h1, h2⟩

end Go.Proofs.Ytfnahgmajdjepaa.QueueMem
