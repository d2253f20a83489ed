/- The contract of slices.Clone of a slice of one number. No condition. -/
import Derived.Test.YtfnahgmajdjepaaQueueMem
import Derived.WalkSpells
namespace Go.Proofs.Ytfnahgmajdjepaa.WalkClone
open Go.RowKit Go.Proofs.Ytfnahgmajdjepaa.PPlaceSays Go.Proofs.YtfnahgmajdjepaaW.PrintWords Go.Proofs.YtfnahgmajdjepaaW.PrintLast Go.Proofs.YtfnahgmajdjepaaW.PrintMore
open Go.Proofs.Ytfnahgmajdjepaa.Facts Go.Proofs.Ytfnahgmajdjepaa.Owner Go.Proofs.Ytfnahgmajdjepaa.QueueMem
set_option linter.unusedVariables false
set_option linter.unusedSimpArgs false

theorem info3 : (Try.prog.info? 3).map (fun i => (i.zero, i.size, i.bytes)) = some (some (.int .i64 0), 1, 8) := by kernel_rfl

theorem inner_of_own {w : World} {base g n cap : Nat} {x : Int} (h : w.ownsRow base 3 1 (.slice (some ⟨g, 0, none⟩) n cap) 1 [.int .i64 x]) (p : Int) (c : Nat) : Inner w ⟨p, x, g, c⟩ := by
  rcases h.2 with ⟨_, h0⟩ | ⟨g', cap', cur, he, hg, hh, hnc, hcm, hsz, htk⟩
  · omega
  · simp at he
    obtain ⟨rfl, _⟩ := he
    refine ⟨cur, hh, ?_⟩
    have : (cur.toList.take (1 * 1))[0]? = some (.int .i64 x) := by rw [htk]; rfl
    rw [List.getElem?_take, if_pos (by omega)] at this
    simpa using this

set_option maxHeartbeats 1000000 in
set_option maxRecDepth 100000 in
theorem clone_one (d c : Nat) (x : Int) (w : World) (hc : w.cell? ⟨d, 0, none⟩ = some (.int .i64 x)) :
    Calls Try.prog 22 #[.slice (some ⟨d, 0, none⟩) 1 c] w fun e w' => ∃ d' c', e = .returned (.slice (some ⟨d', 0, none⟩) 1 c') ∧ w.heap.size ≤ d' ∧ (∀ p, Inner w' ⟨p, x, d', c'⟩) ∧ Below w.heap.size w w' := by
  obtain ⟨i0, hi, hzz⟩ := Option.map_eq_some_iff.1 info3
  simp only [Prod.mk.injEq] at hzz
  obtain ⟨hz0, hz1, hz2⟩ := hzz
  have hnil := fun W : World => Lib.run_eql_slice_nil (P := Try.prog) W 27 3 (some ⟨d, 0, none⟩) 1 c 0 0 Try.underlying27
  go_enter Try.func22, Try.ntmps22
  go_wp2_with (at_builtin; refine wpList_append_lies _ (by rfl) _ _ 27 (by rfl) w.heap.size 3 i0 (.int .i64 0) 1 8 Try.underlying27 hi hz0 hz1 hz2 rfl (by decide) _ 0 [] (by rfl) ?own ⟨d, 0, none⟩ 1 c [.int .i64 x] (by rfl) rfl ?news ?one (by decide) (by decide) (by decide) ?base (w.heap.size + 1) ?hh ?_)
  case own => exact ⟨rfl, .inr ⟨w.heap.size, 0, #[], rfl, Nat.le_refl _, (by show (w.heap.push _)[w.heap.size]? = _; exact Array.getElem?_push_size), by omega, by decide, rfl, rfl⟩⟩
  case news =>
    intro j u hu
    cases j with
    | zero =>
      simp at hu
      subst hu
      rw [World.cell?_alloc_lt _ _ _ (by simpa [Addr.add] using World.block_lt_of_cell? _ _ hc)]
      simpa [Addr.add] using hc
    | succ j => simp at hu
  case one => intro u hu; simp at hu; subst hu; rfl
  case base => simp
  case hh => simp
  intro g cap w1 hown hg hor hlt
  have HB := Aside0.mk (pw_below_grown (below_alloc (Below.refl w.heap.size w) (Obj.cells #[] 3)) _ (below_size (below_alloc (Below.refl _ _) _)) hg (by intro k hk; injection hk with hk; exact Nat.le_of_eq hk))
  have HI := Aside0.mk (inner_of_own hown)
  have hge : w.heap.size ≤ g := by
    rcases hor with h | h
    · injection h with h
      exact Nat.le_of_eq h
    · omega
  have HG := Aside0.mk hge
  clear hge
  clear hown hg hor hlt
  go_wp2
  go_ret
  exact ⟨g, cap, rfl, HG.out, fun p => HI.out p cap, HB.out⟩

end Go.Proofs.Ytfnahgmajdjepaa.WalkClone
