/- The contract of parts.Of without a map. No condition. -/
import Derived.Test.YtfnahgmajdjepaaWalkClone
import Derived.WalkSmall
namespace Go.Proofs.Ytfnahgmajdjepaa.WalkOf
open Go.RowKit Go.Proofs.Ytfnahgmajdjepaa.PPlaceSays Go.Proofs.YtfnahgmajdjepaaW.PrintWords Go.Proofs.YtfnahgmajdjepaaW.PrintLast Go.Proofs.YtfnahgmajdjepaaW.PrintMore
open Go.Proofs.Ytfnahgmajdjepaa.Facts Go.Proofs.Ytfnahgmajdjepaa.Owner Go.Proofs.Ytfnahgmajdjepaa.QueueMem Go.Proofs.Ytfnahgmajdjepaa.WalkClone
set_option linter.unusedVariables false
set_option linter.unusedSimpArgs false

theorem info36 : (Try.prog.info? 36).map (fun i => (i.zero, i.size, i.bytes)) = some (some (.agg #[.int .i64 0, .slice none 0 0]), 2, 32) := by kernel_rfl

/-- What of a queue is told. -/
def said (t : It) : Int × Int := (t.page, t.x)
/-- Those of a worker. -/
def mine (k w : Int) (ps : List It) : List It := ps.filter fun t => (t.page - 1) % k == w

theorem mine_snoc (k w : Int) (ps : List It) (i : Nat) (t : It) (h : ps[i]? = some t) : mine k w (ps.take (i + 1)) = if (t.page - 1) % k = w then mine k w (ps.take i) ++ [t] else mine k w (ps.take i) := by
  have hlt : i < ps.length := (List.getElem?_eq_some_iff.1 h).1
  have hg : ps[i] = t := (List.getElem?_eq_some_iff.1 h).2
  rw [List.take_succ_eq_append_getElem hlt, hg]
  unfold mine
  rw [List.filter_append]
  by_cases e : (t.page - 1) % k = w
  · rw [if_pos e]; simp [e]
  · rw [if_neg e]; simp [e]

theorem mine_le (k w : Int) (ps : List It) : (mine k w ps).length ≤ ps.length := List.length_filter_le _ _

theorem row_lt {W : World} {base n : Nat} {v : Value} {xs : List Value} (h : W.ownsRow base 36 2 v n xs) : ∀ k, v.ownBlock = some k → k < W.heap.size := fun k hk => by
  obtain ⟨_, cur, hc⟩ := row_block h hk
  exact heap_lt hc

theorem news_at (w : World) (a b : Value) : ∀ (j : Nat) (u : Value), [a, b][j]? = some u → (w.alloc (.cells #[a, b] 36)).cell? ((⟨w.heap.size, 0, none⟩ : Addr).add j) = some u := cell_two_new w a b 36
theorem news_one (p : Int) (d c : Nat) : ∀ u ∈ ([.int .i64 p, .slice (some ⟨d, 0, none⟩) 1 c] : List Value), u.oneCell' = true := by
  intro u hu
  simp at hu
  rcases hu with rfl | rfl <;> rfl
theorem len_ok {n : Nat} (h : n ≤ 1000) : n + 1 ≤ maxLen := by unfold maxLen; omega
theorem bytes_ok {n : Nat} (h : n ≤ 1000) : (n + 1) * 32 ≤ 140737488355328 := by omega
theorem base_ok {W w1 w2 : World} {o : Obj} (h : Below W.heap.size W w1) (hb : Below w1.heap.size w1 w2) : W.heap.size ≤ (w2.alloc o).heap.size := by
  have := h.size
  have := hb.size
  simp
  omega
theorem box_ok {wr w2 w3 : World} {o : Obj} {v : Value} {x y : Value} (h : w2.cell? ⟨wr.heap.size, 0, none⟩ = some x ∧ w2.cell? ⟨wr.heap.size, 1, none⟩ = some y) (hg : (w2.alloc o).grownBy w3 v.ownBlock) (hr : ∀ k, v.ownBlock = some k → k < wr.heap.size) :
    w3.cell? ⟨wr.heap.size, 0, none⟩ = some x ∧ w3.cell? ⟨wr.heap.size, 1, none⟩ = some y := by
  have hl := World.block_lt_of_cell? _ _ h.1
  have hb : w3.heap[wr.heap.size]? = (w2.alloc o).heap[wr.heap.size]? := hg.block _ (by simp; exact Nat.lt_succ_of_lt hl) (fun e => by have := hr _ e.symm; omega)
  have e : ∀ j, w3.cell? ⟨wr.heap.size, j, none⟩ = w2.cell? ⟨wr.heap.size, j, none⟩ := fun j => by
    rw [World.cell?_of_block (w := w2.alloc o) hb]
    exact World.cell?_alloc_lt _ _ _ hl
  exact ⟨(e 0).trans h.1, (e 1).trans h.2⟩

/-- What a worker's queues are. -/
def OfPost (ps : List It) (w workers : Int) (W : World) (e : Ending) (W' : World) : Prop :=
  ∃ v' qs, e = .returned v' ∧ Items W' W.heap.size v' qs ∧ qs.map said = (mine (wk workers) w ps).map said ∧ Below W.heap.size W W'

set_option maxHeartbeats 4000000 in
set_option maxRecDepth 100000 in
theorem of_calls (v : Value) (ps : List It) (w workers : Int) (W : World) (B : Nat) (h : Items W B v ps) (hp : ∀ t ∈ ps, 1 ≤ t.page ∧ t.page ≤ 1000) (hlen : ps.length ≤ 1000) :
    Calls Try.prog 21 #[v, .int .i64 w, .int .i64 workers, .slice none 0 0] W (OfPost ps w workers W) := by
  obtain ⟨i0, hi, hzz⟩ := Option.map_eq_some_iff.1 info36
  simp only [Prod.mk.injEq] at hzz
  obtain ⟨hz0, hz1, hz2⟩ := hzz
  obtain ⟨A, cap, rfl⟩ := h.slice
  have H := Aside0.mk h
  have HP := Aside0.mk hp
  have hl : (ps.length : Int) ≤ 1000 := by omega
  have HI0 := Aside0.mk (And.intro hi (And.intro hz0 (And.intro hz1 hz2)))
  clear h hp hi hz0 hz1 hz2 hlen
  go_enter Try.func21, Try.ntmps21
  go_wp2_with fail
  go_loopg [9, 14] (ps.length + 1) (fun kq v9 v14 w' => ∃ (i : Nat) (qs : List It), v14 = .int .i64 (i : Int) ∧ Aside0 (kq + i = ps.length + 1 ∧ i ≤ ps.length) ∧ Aside0 (Items w' W.heap.size v9 qs) ∧ Aside0 (qs.map said = (mine (wk workers) w (ps.take i)).map said) ∧ Aside0 (Below W.heap.size W w'))
  case atStart => exact ⟨0, [], rfl, ⟨by omega⟩, ⟨Items.nil _ _⟩, ⟨by simp [mine]⟩, ⟨Below.refl _ _⟩⟩
  case round =>
    obtain ⟨i, qs, rfl, HI, HQ, HM, HB⟩ := hrel
    by_cases hlt : (i : Int) < (ps.length : Int)
    · have hi0 : (0 : Int) ≤ (i : Int) := by omega
      obtain ⟨t, ht⟩ : ∃ t, ps[i]? = some t := ⟨ps[i]'(by omega), List.getElem?_eq_getElem _⟩
      obtain ⟨g, cap', hv, hc0, hc1, hc2, hf2, hbg, hgl⟩ := (H.out.below HB.out).at ht
      injection hv with hv1 hv2 hv3
      subst hv1
      obtain ⟨tp0, tp1⟩ := HP.out t (List.mem_of_getElem? ht)
      have HT := Aside0.mk ht
      clear ht hv2 hv3 hbg hgl hf2
      obtain ⟨r, hr⟩ : ∃ r, (t.page - 1) % wk workers = r := ⟨_, rfl⟩
      have HR := Aside0.mk hr
      clear hr
      have HC2 := Aside0.mk hc2
      clear hc2
      go_wp2_with fail
      refine (owner_nil_at _ _ r tp0 (by omega) HR.out _ _ _).mono ?_
      rintro e w1 ⟨rfl, hB⟩
      have hk0 : w1.cell? ⟨wr.heap.size, 0, none⟩ = some (.int .i64 t.page) := (hB.cell (p := ⟨wr.heap.size, 0, none⟩) (by simp)).trans (by simp)
      have hk1 : w1.cell? ⟨wr.heap.size, 1, none⟩ = some (.slice (some ⟨t.d, 0, none⟩) 1 t.c) := (hB.cell (p := ⟨wr.heap.size, 1, none⟩) (by simp)).trans (by simp)
      have HB1 := Aside0.mk (below_step (below_alloc (Below.refl _ _) _) hB)
      have hzz : wr.heap.size < w1.heap.size := by have := hB.size; simp at this; omega
      clear hB hc0 hc1
      have hdl : t.d < wr.heap.size := World.block_lt_of_cell? _ _ HC2.out
      have HC3 := Aside0.mk ((HB1.out.cell (p := ⟨t.d, 0, none⟩) hdl).trans HC2.out)
      have HQ1 := Aside0.mk (HQ.out.below HB1.out)
      have hrowlt := row_lt HQ.out.row
      replace HB1 := Aside0.mk (below_step HB.out HB1.out)
      by_cases hrw : r = w
      · subst hrw
        have HL := Aside0.mk (show qs.length ≤ 1000 by have := congrArg List.length HM.out; simp at this; have := mine_le (wk workers) r (ps.take i); have := List.length_take_le i ps; omega)
        obtain ⟨hi, hz0, hz1, hz2⟩ := HI0.out
        have HROW := Aside0.mk hrowlt
        clear hrowlt
        go_wp2_with fail
        go_region_held3 (fun w' => w'.cell? ⟨wr.heap.size, 0, none⟩ = some (.int .i64 t.page) ∧ w'.cell? ⟨wr.heap.size, 1, none⟩ = some (.slice (some ⟨t.d, 0, none⟩) 1 t.c))
          (first | exact hs4 | exact hs3 | exact hs2 | go_keep)
          (first
            | (go_at_call 22; refine (clone_one t.d t.c t.x _ (by exact HC3.out)).mono ?_; rintro e w2 ⟨d', c', rfl, hd, hin, hb⟩; have hb2 : Below w1.heap.size w1 w2 := ⟨hb.os, hb.tape, hb.output, hb.size, hb.block⟩; have hs2 : w2.cell? ⟨wr.heap.size, 0, none⟩ = some (.int .i64 t.page) ∧ w2.cell? ⟨wr.heap.size, 1, none⟩ = some (.slice (some ⟨t.d, 0, none⟩) 1 t.c) := ⟨(hb2.cell (p := ⟨wr.heap.size, 0, none⟩) hzz).trans hk0, (hb2.cell (p := ⟨wr.heap.size, 1, none⟩) hzz).trans hk1⟩; have HQ2 := Aside0.mk (HQ1.out.below hb2))
            | (refine step_append_lies _ (by rfl) _ _ 34 (by rfl) W.heap.size 36 i0 (.agg #[.int .i64 0, .slice none 0 0]) 2 32 Try.underlying34 hi hz0 hz1 hz2 rfl (by decide) _ qs.length (cells qs) (by rfl) (by exact (HQ2.out.below (below_alloc (Below.refl _ _) _)).row) ⟨w2.heap.size, 0, none⟩ 1 1 [.int .i64 t.page, .slice (some ⟨d', 0, none⟩) 1 c'] (by rfl) rfl (by exact news_at _ _ _) (by exact news_one _ _ _) (by decide) (by exact len_ok HL.out) (by exact bytes_ok HL.out) (by exact base_ok HB1.out hb2) (w2.heap.size + 1) (by simp) ?_; intro g2 cap2 w3 hown hgr hor hlt3; have hs3 : w3.cell? ⟨wr.heap.size, 0, none⟩ = some (.int .i64 t.page) ∧ w3.cell? ⟨wr.heap.size, 1, none⟩ = some (.slice (some ⟨t.d, 0, none⟩) 1 t.c) := box_ok hs2 hgr HROW.out))
        have hdd : w1.heap.size ≤ d' := hd
        have HQ3 := Aside0.mk (Items.snoc (t := ⟨t.page, t.x, d', c'⟩) (HQ2.out.below (below_alloc (Below.refl _ _) (Obj.cells #[.int .i64 t.page, .slice (some ⟨d', 0, none⟩) 1 c'] 36))) hown hgr ((hin t.page).below (below_alloc (Below.refl _ _) _)) (by have := HB1.out.size; show W.heap.size ≤ d'; omega) (fun s hs => by have := (HQ1.out.inner s hs).lt; show s.d ≠ d'; omega))
        have HB3 := Aside0.mk (pw_below_grown (below_alloc (below_step HB1.out hb2) (Obj.cells #[.int .i64 t.page, .slice (some ⟨d', 0, none⟩) 1 c'] 36)) _ (by have := base_ok (o := Obj.cells #[.int .i64 t.page, .slice (some ⟨d', 0, none⟩) 1 c'] 36) HB1.out hb2; exact this) hgr (fun k hk => (row_block HQ1.out.row hk).1))
        have HM3 := Aside0.mk (show (qs ++ [(⟨t.page, t.x, d', c'⟩ : It)]).map said = (mine (wk workers) r (ps.take (i + 1))).map said by rw [mine_snoc _ _ _ _ _ HT.out, if_pos HR.out, List.map_append, List.map_append, HM.out]; rfl)
        clear hs2 hs3 hb hb2 hown hgr hor hlt3 hin hd hdd hk0 hk1 hi hz0 hz1 hz2
        go_wp2_with fail
        go_roundg (gk - 1)
        case measure => have := HI.out; omega
        case rel => exact ⟨i + 1, _, by simp, ⟨by have := HI.out; omega⟩, ⟨by have := HQ3.out; simpa using this⟩, HM3, HB3⟩
      · have hb0 : (r == w) = false := beq_eq_false_iff_ne.mpr hrw
        have HM3 := Aside0.mk (show qs.map said = (mine (wk workers) w (ps.take (i + 1))).map said by rw [mine_snoc _ _ _ _ _ HT.out, if_neg (by rw [HR.out]; exact hrw), HM.out])
        clear hk0 hk1 hrowlt hrw
        go_wp2_with fail
        go_roundg (gk - 1)
        case measure => have := HI.out; omega
        case rel => exact ⟨i + 1, qs, by simp, ⟨by have := HI.out; omega⟩, HQ1, HM3, HB1⟩
    · have HE := Aside0.mk (show i = ps.length by have := HI.out; omega)
      go_wp2_with fail
      go_ret
      exact ⟨_, qs, rfl, HQ.out, by have := HM.out; rw [HE.out, List.take_length] at this; exact this, HB.out⟩

end Go.Proofs.Ytfnahgmajdjepaa.WalkOf
