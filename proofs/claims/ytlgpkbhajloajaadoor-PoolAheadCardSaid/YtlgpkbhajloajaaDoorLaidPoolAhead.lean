/- From the condition on the listed variables to where api's errors lie; a start that meets it. No condition. -/
import Derived.Test.YtlgpkbhajloajaaDoorRows
import Derived.Test.YtlgpkbhajloajaaDoorSee
import Derived.ProofKit
import Derived.ChangeSame
import Derived.ChangeVars
import Derived.JoinedOf
import Derived.RowKit
import Derived.RowKitTokens
import Derived.LaidLaws
import Derived.LaidHandle
import Derived.LaidMore
import Derived.Stop.Joined
import Derived.Stop.LaidErr
namespace Go.Proofs.YtlgpkbhajloajaaDoor.LaidPoolAhead
open Go.ChangeShapes Go.WideShapes Go.RowKit Go.Proofs.YtlgpkbhajloajaaDoor.See
set_option linter.unusedVariables false

/-- A datum that is an error of errors.New. -/
def isErr : DataW Unit → Bool
  | .iface nm (.ptr (.agg [.lit (.string _)])) => nm == "*errors.errorString"
  | _ => false

theorem isErr_of {d : DataW Unit} (h : isErr d = true) : ∃ text, d = .iface "*errors.errorString" (.ptr (.agg [.lit (.string text)])) := by
  unfold isErr at h
  split at h
  · next nm text => exact ⟨text, by rw [eq_of_beq h]⟩
  · cases h

theorem star : "*errors.errorString" = "*" ++ "errors.errorString" := by decide
theorem rowTES (u : TypeId) (h : Tryd.prog.typeName? 3 u = some "*errors.errorString") : u = 163 :=
  typeName_ptr_named (nm := "errors.errorString") (by rw [← star]; kernel_rfl) (by kernel_rfl) (by decide) u (by rw [← star]; exact h)
theorem cellsTESE : Tryd.prog.cellsOf 179 = 1 := by kernel_rfl
theorem cellsTS : Tryd.prog.cellsOf 9 = 1 := by kernel_rfl

set_option maxRecDepth 100000 in
theorem addrs_of : ∀ (l : List (String × DataW Unit)) (ps : List MemPlace) (W : World),
    (∀ x ∈ l, isErr x.2 = true ∧ ∀ g, Tryd.prog.globalNamed x.1 = some g → (Tryd.prog.globals[g]?).map (·.type) = some 34) → DataW.LaidVars Tryd.prog W l ps →
    (∀ b off, MemPlace.cell b off ∈ ps → (∃ c t, W.heap[b]? = some (.cells c t (0, 0))) ∧ ∀ u v, W.cell? ⟨b, off, none⟩ = some (.iface u v) → Value.okWide Tryd.prog W .any 0 u v) →
    ∃ zs : List Addr, zs.length = l.length ∧ (∀ (i : Nat) (x : String × DataW Unit), l[i]? = some x → ∃ (g : Nat) (a : Addr), Tryd.prog.globalNamed x.1 = some g ∧ zs[i]? = some a ∧ W.cell? ⟨g, 0, none⟩ = some (.iface 163 (.pointer (some a)))) ∧
      (∀ a ∈ zs, MemPlace.cell a.block a.off ∈ ps) ∧ (ps.Nodup → zs.Nodup)
  | [], ps, W, _, h, _ => ⟨[], rfl, fun i x hx => by simp at hx, fun a ha => by simp at ha, fun _ => List.nodup_nil⟩
  | (n, d) :: l, ps, W, hl, h, hrows => by
    obtain ⟨g, t, cs, fuel, p, q, hg, ht, hv, hd, hq, rfl⟩ := h
    obtain ⟨he, hty⟩ := hl (n, d) (List.mem_cons_self ..)
    obtain ⟨text, rfl⟩ := isErr_of he
    obtain rfl := Option.some.inj ((hty g hg).symm.trans ht)
    obtain ⟨lcs⟩ := cs
    have ok0 : ∀ u v, lcs = [.iface u v] → Value.okWide Tryd.prog W .any 0 u v := fun u v e => by
      subst e
      exact (hrows g 0 (by simp [MemPlace.row])).2 u v (by simpa using World.var?_cell hg hv 0)
    obtain ⟨a0, s0, rfl, hc0, hs0, hz0, rfl⟩ := errorString_of_trod Tryd.underlying34 rowTES Tryd.underlying163 Tryd.underlying179 rfl rfl Tryd.underlying9 cellsTESE cellsTS hd ok0
    obtain ⟨zs, hlen, hat, hmem, hnd⟩ := addrs_of l q W (fun x hx => hl x (List.mem_cons_of_mem _ hx)) hq (fun b off hm => hrows b off (List.mem_append_right _ hm))
    refine ⟨a0 :: zs, by simp [hlen], ?_, ?_, ?_⟩
    · intro i x hx
      cases i with
      | zero =>
        simp at hx
        subst hx
        exact ⟨g, a0, hg, rfl, by simpa using World.var?_cell hg hv 0⟩
      | succ i => simpa using hat i x (by simpa using hx)
    · intro a ha
      rcases List.mem_cons.1 ha with e | e
      · subst e
        exact List.mem_append_left _ (List.mem_append_right _ (by simp [MemPlace.row]))
      · exact List.mem_append_right _ (hmem a e)
    · intro hn
      rw [List.nodup_append] at hn
      obtain ⟨h1, h2, h3⟩ := hn
      refine List.nodup_cons.2 ⟨fun hin => ?_, hnd h2⟩
      exact h3 _ (List.mem_append_right _ (by simp [MemPlace.row])) _ (hmem a0 hin) rfl

/-- The list. -/
def list : List (String × DataW Unit) := [("phoenix/api.ErrOff", Rows.laid_phoenix_api_ErrOff), ("phoenix/api.ErrRange", Rows.laid_phoenix_api_ErrRange), ("phoenix/api.ErrShort", Rows.laid_phoenix_api_ErrShort), ("phoenix/api.ErrPage", Rows.laid_phoenix_api_ErrPage), ("phoenix/api.ErrLogFull", Rows.laid_phoenix_api_ErrLogFull)]
/-- Which of api's errors they are. -/
def ix : List Nat := [0, 1, 2, 6, 8]

theorem list_ok : list.all (fun x => isErr x.2) = true := by kernel_rfl
theorem list_types : (list.map fun x => (Tryd.prog.globalNamed x.1).bind fun g => (Tryd.prog.globals[g]?).map (·.type)) = List.replicate ix.length (some 34) := by kernel_rfl
theorem list_globals : (list.map fun x => Tryd.prog.globalNamed x.1) = ix.map fun i => some (gl i) := by kernel_rfl
theorem list_len : list.length = ix.length := rfl
theorem idx_at {l : List Nat} {i : Nat} (h : i ∈ l) : l.idxOf i < l.length ∧ l[l.idxOf i]? = some i := by
  have hl := List.idxOf_lt_length_of_mem h
  exact ⟨hl, by rw [List.getElem?_eq_getElem hl, List.getElem_idxOf hl]⟩

theorem sents_of {W : World} (h : laidMetH Tryd.prog list W) : ∃ a, SentsK ix W a := by
  have h' : laidMet Tryd.prog list W := h
  obtain ⟨ps, hv, hnd, hrows⟩ := h'
  obtain ⟨zs, hlen, hat, hmem, hn⟩ := addrs_of list ps W (fun x hx => by
    refine ⟨List.all_eq_true.1 list_ok x hx, fun g hg => ?_⟩
    obtain ⟨i, hi, hxi⟩ := List.getElem_of_mem hx
    have hr : (list.map fun x => (Tryd.prog.globalNamed x.1).bind fun g => (Tryd.prog.globals[g]?).map (·.type))[i]? = some ((Tryd.prog.globalNamed x.1).bind fun g => (Tryd.prog.globals[g]?).map (·.type)) := by
      rw [List.getElem?_map, List.getElem?_eq_getElem hi, hxi]; rfl
    rw [list_types, List.getElem?_replicate, if_pos (by rw [← list_len]; exact hi), hg] at hr
    exact (Option.some.inj hr).symm) hv hrows
  have hlen2 : zs.length = ix.length := hlen
  refine ⟨fun i => zs.getD (ix.idxOf i) ⟨0, 0, none⟩, fun i hi => ?_, fun i hi => ?_, fun i j hi hj hne => ?_⟩
  · obtain ⟨hk, hki⟩ := idx_at hi
    obtain ⟨x, hx⟩ : ∃ x, list[ix.idxOf i]? = some x := ⟨list[ix.idxOf i]'(by rw [list_len]; exact hk), List.getElem?_eq_getElem _⟩
    obtain ⟨g, a, hg, ha, hc⟩ := hat _ x hx
    have hr : (list.map fun x => Tryd.prog.globalNamed x.1)[ix.idxOf i]? = some (some g) := by rw [List.getElem?_map, hx]; simp [hg]
    rw [list_globals, List.getElem?_map, hki] at hr
    obtain rfl : gl i = g := by simpa using hr
    rw [List.getD_eq_getElem?_getD, ha]
    exact hc
  · have hi' : ix.idxOf i < zs.length := by rw [hlen2]; exact (idx_at hi).1
    have hm : zs.getD (ix.idxOf i) ⟨0, 0, none⟩ ∈ zs := by
      rw [List.getD_eq_getElem?_getD, List.getElem?_eq_getElem hi']; exact List.getElem_mem hi'
    exact (hrows _ _ (hmem _ hm)).1
  · have hi' : ix.idxOf i < zs.length := by rw [hlen2]; exact (idx_at hi).1
    have hj' : ix.idxOf j < zs.length := by rw [hlen2]; exact (idx_at hj).1
    have hne' : ix.idxOf i ≠ ix.idxOf j := fun e => hne (by
      have h1 := (idx_at hi).2
      rw [e, (idx_at hj).2] at h1
      exact (Option.some.inj h1).symm)
    show zs.getD _ ⟨0, 0, none⟩ ≠ zs.getD _ ⟨0, 0, none⟩
    rw [List.getD_eq_getElem?_getD, List.getD_eq_getElem?_getD, List.getElem?_eq_getElem hi', List.getElem?_eq_getElem hj']
    have hp := List.pairwise_iff_getElem.1 (hn hnd)
    rcases Nat.lt_or_gt_of_ne hne' with e | e
    · exact hp _ _ hi' hj' e
    · exact fun h => hp _ _ hj' hi' e h.symm

theorem own : ownKnob Tryd.prog.godebug = none := by kernel_rfl
theorem laidOut : laidOutB Tryd.prog = true := by kernel_rfl

theorem door_met (os : Os) (args : Array Value) : laidMetH Tryd.prog list ((World.doorLaid Tryd.prog 351 os).forCall (fun _ _ => 0) ⟨#[], args, []⟩).memory :=
  laidMetH_of_parts3 (fuel := 8) (laidMet_of_run' 8 (by kernel_rfl) (by kernel_rfl)) (by kernel_rfl) (by kernel_rfl)

end Go.Proofs.YtlgpkbhajloajaaDoor.LaidPoolAhead
