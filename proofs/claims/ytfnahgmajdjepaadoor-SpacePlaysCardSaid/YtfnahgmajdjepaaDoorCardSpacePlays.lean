/- Proved: SpacePlays answers true at every input: whatever is asked, spent, let go, each answer, what is free and what is kept are the reference's. Condition: api's errors are what their text lays (tied). -/
import Derived.Test.YtfnahgmajdjepaaDoorRows
import Derived.Test.YtfnahgmajdjepaaDoorCards
import Derived.Test.YtfnahgmajdjepaaDoorTie
import Derived.Test.YtfnahgmajdjepaaDoorLaid
import Derived.Test.YtfnahgmajdjepaaDoorWalkSpacePlays
import Derived.Test.YtfnahgmajdjepaaDoorOpen
import Derived.OpenShut
import Derived.ShutString
import Derived.ChangeOld
import Derived.SizedLaws
import Derived.SevenTiedAt
namespace Go.Proofs.YtfnahgmajdjepaaDoor.spacePlays
open Go.ChangeShapes Go.WideShapes Go.ChangeAt Go.RowKit
open Go.ChangeMaps (open_string shut_string)
open Go.Proofs.YtfnahgmajdjepaaDoorW
set_option linter.unusedVariables false
set_option maxRecDepth 100000 in
theorem lifted (os : Os) (started : os.Started) (H : Type) (enc : TypeId × Value → H) :
    ReturnsInHanded {} Tryd.checked os 3 .any (fun w args => (Rows.spacePlaysSpec.pre enc Tryd.prog Tryd.f3 [] false w args ∧ laidMetH Tryd.prog Laid.list w) ∧ sizedMet enc Tryd.prog Tryd.f3 (OpenSpec.ofChange Rows.spacePlaysSpec) false w args)
      (Rows.spacePlaysSpec.post enc Tryd.prog Tryd.f3 false true false false) := by
  refine returnsInHanded_of_change_and (C := Tryd.checked) (X := fun w _ => laidMetH Tryd.prog Laid.list w) (fun _ _ _ hh h => h.of_heap hh) Laid.own started (by kernel_rfl) Tryd.func3
    (ChangeSpec.witness_shaped (enc := enc) (C := Tryd.checked) (os := os) (X := fun w _ => laidMetH Tryd.prog Laid.list w) false (World.doorLaid Tryd.prog 351 os) #[.int .i64 0, .slice none 0 0] 8 rfl (World.shaped_of_RefB (by kernel_rfl) (by kernel_rfl)) (by kernel_rfl) (by kernel_rfl) (by kernel_rfl) (Laid.door_met os _)) ?_
  intro W base args ds gs before hval0 hW _ _ hL _
  have hval : ∀ (j : Nat) t v, Tryd.f3.params[j]? = some t → args[j]? = some v → Value.okWide Tryd.prog W .any base t v := hval0
  have hW' := hW
  obtain ⟨p, q, hA0, hV, rfl, hfz, hnd⟩ := hW
  have hA : DataW.TrodAll enc Tryd.prog W 0 (fun _ => true) true Tryd.f3.params.toList args.toList ds p := hA0
  rw [Tryd.params3] at hA hval
  obtain ⟨v0, vs0, d0, ds0, p0, q0, hargs, rfl, rfl, h0, r0⟩ := trodAll_cons hA
  obtain ⟨v1, vs1, d1, ds1, p1, q1, rfl, rfl, rfl, h1, r1⟩ := trodAll_cons r0
  obtain ⟨rfl, rfl, rfl⟩ := trodAll_nil r1
  obtain rfl : args = #[v0, v1] := by cases args; simp_all
  obtain ⟨rfl, rfl⟩ := trodVars_none hV
  obtain ⟨a0, rfl, rfl, rfl, w0⟩ := open_int Tryd.underlying3 (hval 0 3 v0 rfl rfl) h0
  obtain ⟨a1, len1, cap1, rfl⟩ := okWide_slice Tryd.underlying22 (hval 1 22 v1 rfl rfl)
  have k1 := h1
  have lt1 : ∀ x ∈ p1, x.block < W.heap.size := by obtain ⟨m, hm⟩ := k1; exact DataW.trod_lt m _ _ _ hm
  obtain ⟨fuel1, hf1⟩ := h1
  obtain ⟨hm1, f1, hN1⟩ := Open.nums_of_elems (m := 3) Tryd.underlying22 (by kernel_rfl) (Open.struct_elem Tryd.underlying33 Tryd.underlying3 (by kernel_rfl) (fun j f hj => by match j, hj with | 0, hj => obtain rfl := Option.some.inj hj; exact ⟨rfl, rfl⟩ | 1, hj => obtain rfl := Option.some.inj hj; exact ⟨rfl, rfl⟩ | 2, hj => obtain rfl := Option.some.inj hj; exact ⟨rfl, rfl⟩ | (j + 3), hj => simp at hj)) (show DataW.trod enc Tryd.prog W 0 (fun _ => true) true fuel1 22 [.slice a1 len1 cap1] = _ from hf1)
  obtain ⟨sa, hs⟩ := Laid.sents_of hL
  clear hA0 hval0
  refine (WalkPlays.plays_nums a0 _ _ _ f1 hm1 sa W hs hN1).mono fun e W' ⟨he, bel⟩ => ?_
  subst he
  exact ⟨_, rfl, _, _, _, [], _, [], hW', trodAll_mk1 (shut_bool Tryd.underlying4 _), (trodAll_cons_mk (shut_int Tryd.underlying3 w0) (trodAll_cons_mk (Below.trod Laid.laidOut (by kernel_rfl) (of_decide_eq_true (by kernel_rfl)) k1 bel lt1) trodAll_mk0)), rfl, bel.frame _, fun h => by cases h⟩
theorem over : Rows.spacePlaysRow.holds Tryd.pinned (OpenSpec.ofChange Rows.spacePlaysSpec) :=
  OpenClaim.holds_of_wide 3 Tryd.f3 rfl rfl rfl rfl rfl rfl rfl ⟨rfl, rfl, rfl, rfl, rfl⟩ rfl rfl rfl rfl rfl (by kernel_rfl) Tryd.func3 (by kernel_rfl)
    (of_decide_eq_true (by kernel_rfl)) (by unfold Func.isWrapper; first | (rw [if_pos (by decide +kernel)]; kernel_rfl) | (rw [if_neg (by decide +kernel)]; exact ⟨rfl, rfl⟩))
    (fun os started H enc _ => lifted os started H enc)
theorem want3 : Tryd.prog.wantsStandIn 3 = false := by kernel_rfl
theorem want22 : Tryd.prog.wantsStandIn 22 = false := by kernel_rfl
theorem card : Rows.SpacePlaysCardSaid :=
  Claim7.holds_tied_plain_at .later [] [.sentinel, .sentinel, .sentinel, .sentinel, .sentinel, .sentinel, .sentinel, .sentinel, .sentinel, .sentinel, .sentinel, .sentinel, .sentinel, .sentinel, .sentinel, .sentinel, .sentinel, .sentinel] true (true, "2ee6df1f5c1b984f321c783de54816afd295dcc79b3acd91be3af0cb40e6a58f") true
    over (fun _ h => by cases h) (by kernel_rfl) (fun _ h => by cases h) spacePlays_row_tie rfl ⟨rfl, rfl⟩ (by kernel_rfl) rfl
    (fun f fn hf hfn => by
      obtain rfl : f = 3 := Option.some.inj ((show Tryd.prog.funcNamed "phoenix/phoenixlaw15.SpacePlays" = some 3 by kernel_rfl).symm.trans hf) |>.symm
      obtain rfl : fn = Tryd.f3 := (Option.some.inj (Tryd.func3.symm.trans hfn)).symm
      exact ⟨by kernel_rfl, fun j t ht => by
        rw [Tryd.params3] at ht
        have h : t = 3 ∨ t = 22 := by
          have hm := Array.mem_of_getElem? ht
          simp at hm
          omega
        rcases h with rfl | rfl
        · exact want3
        · exact want22⟩)
    (by kernel_rfl)
#print axioms card
end Go.Proofs.YtfnahgmajdjepaaDoor.spacePlays
namespace Go.Proofs.YtfnahgmajdjepaaDoor
/-- The card, under a short name, for the claim. -/
theorem spacePlays_card : Rows.SpacePlaysCardSaid := spacePlays.card
end Go.Proofs.YtfnahgmajdjepaaDoor
