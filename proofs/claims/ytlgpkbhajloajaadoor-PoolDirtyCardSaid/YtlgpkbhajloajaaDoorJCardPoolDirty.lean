/- Proved: PoolDirty answers true at every input: a page is dirty from its first change on, till it is written; then from the next one on. Condition: api's errors are what their text lays (tied). -/
import Derived.Test.YtlgpkbhajloajaaDoorRows
import Derived.Test.YtlgpkbhajloajaaDoorCards
import Derived.Test.YtlgpkbhajloajaaDoorTie
import Derived.Test.YtlgpkbhajloajaaDoorLaidPoolDirty
import Derived.Test.YtlgpkbhajloajaaDoorJWalkPoolDirty
import Derived.OpenShut
import Derived.ShutString
import Derived.ChangeOld
import Derived.SizedLaws
import Derived.SevenTiedAt
namespace Go.Proofs.YtlgpkbhajloajaaDoor.poolDirty
open Go.ChangeShapes Go.WideShapes Go.ChangeAt Go.RowKit
open Go.ChangeMaps (open_string shut_string)
open Go.Proofs.YtlgpkbhajloajaaDoorW
set_option linter.unusedVariables false
set_option maxRecDepth 100000 in
theorem lifted (os : Os) (started : os.Started) (H : Type) (enc : TypeId × Value → H) :
    ReturnsInHanded {} Tryd.checked os 5 .any (fun w args => (Rows.poolDirtySpec.pre enc Tryd.prog Tryd.f5 [] false w args ∧ laidMetH Tryd.prog LaidPoolDirty.list w) ∧ sizedMet enc Tryd.prog Tryd.f5 (OpenSpec.ofChange Rows.poolDirtySpec) false w args)
      (Rows.poolDirtySpec.post enc Tryd.prog Tryd.f5 false true false false) := by
  refine returnsInHanded_of_change_and (C := Tryd.checked) (X := fun w _ => laidMetH Tryd.prog LaidPoolDirty.list w) (fun _ _ _ hh h => h.of_heap hh) LaidPoolDirty.own started (by kernel_rfl) Tryd.func5
    (ChangeSpec.witness_shaped (enc := enc) (C := Tryd.checked) (os := os) (X := fun w _ => laidMetH Tryd.prog LaidPoolDirty.list w) false (World.doorLaid Tryd.prog 351 os) #[.int .i64 0, .int .i64 0] 8 rfl (World.shaped_of_RefB (by kernel_rfl) (by kernel_rfl)) (by kernel_rfl) (by kernel_rfl) (by kernel_rfl) (LaidPoolDirty.door_met os _)) ?_
  intro W base args ds gs before hval0 hW _ _ hL _
  have hval : ∀ (j : Nat) t v, Tryd.f5.params[j]? = some t → args[j]? = some v → Value.okWide Tryd.prog W .any base t v := hval0
  have hW' := hW
  obtain ⟨p, q, hA0, hV, rfl, hfz, hnd⟩ := hW
  have hA : DataW.TrodAll enc Tryd.prog W 0 (fun _ => true) true Tryd.f5.params.toList args.toList ds p := hA0
  rw [Tryd.params5] at hA hval
  obtain ⟨v0, vs0, d0, ds0, p0, q0, hargs, rfl, rfl, h0, r0⟩ := trodAll_cons hA
  obtain ⟨v1, vs1, d1, ds1, p1, q1, rfl, rfl, rfl, h1, r1⟩ := trodAll_cons r0
  obtain ⟨rfl, rfl, rfl⟩ := trodAll_nil r1
  obtain rfl : args = #[v0, v1] := by cases args; simp_all
  obtain ⟨rfl, rfl⟩ := trodVars_none hV
  obtain ⟨a0, rfl, rfl, rfl, w0⟩ := open_int Tryd.underlying3 (hval 0 3 v0 rfl rfl) h0
  obtain ⟨a1, rfl, rfl, rfl, w1⟩ := open_int Tryd.underlying3 (hval 1 3 v1 rfl rfl) h1
  obtain ⟨sa, hs⟩ := LaidPoolDirty.sents_of hL
  clear hA0 hval0
  refine (WalkPoolDirty.dirty_calls a0 a1 sa W (hs.sub (by decide)) ).mono fun e W' ⟨he, bel⟩ => ?_
  subst he
  exact ⟨_, rfl, _, _, _, [], _, [], hW', trodAll_mk1 (shut_bool Tryd.underlying4 _), (trodAll_cons_mk (shut_int Tryd.underlying3 w0) (trodAll_cons_mk (shut_int Tryd.underlying3 w1) trodAll_mk0)), rfl, bel.frame _, fun h => by cases h⟩
theorem over : Rows.poolDirtyRow.holds Tryd.pinned (OpenSpec.ofChange Rows.poolDirtySpec) :=
  OpenClaim.holds_of_wide 5 Tryd.f5 rfl rfl rfl rfl rfl rfl rfl ⟨rfl, rfl, rfl, rfl, rfl⟩ rfl rfl rfl rfl rfl (by kernel_rfl) Tryd.func5 (by kernel_rfl)
    (of_decide_eq_true (by kernel_rfl)) (by unfold Func.isWrapper; first | (rw [if_pos (by decide +kernel)]; kernel_rfl) | (rw [if_neg (by decide +kernel)]; exact ⟨rfl, rfl⟩))
    (fun os started H enc _ => lifted os started H enc)
theorem want3 : Tryd.prog.wantsStandIn 3 = false := by kernel_rfl
theorem card : Rows.PoolDirtyCardSaid :=
  Claim7.holds_tied_plain_at .later [] [.sentinel, .sentinel, .sentinel, .sentinel, .sentinel] true (true, "f973041692242330d91c0bfeb2cc100d9e1f08fdb4dd65dcc0b0ad25ae59687d") true
    over (fun _ h => by cases h) (by kernel_rfl) (fun _ h => by cases h) poolDirty_row_tie rfl ⟨rfl, rfl⟩ (by kernel_rfl) rfl
    (fun f fn hf hfn => by
      obtain rfl : f = 5 := Option.some.inj ((show Tryd.prog.funcNamed "phoenix/phoenixlaw11.PoolDirty" = some 5 by kernel_rfl).symm.trans hf) |>.symm
      obtain rfl : fn = Tryd.f5 := (Option.some.inj (Tryd.func5.symm.trans hfn)).symm
      exact ⟨by kernel_rfl, fun j t ht => by
        rw [Tryd.params5] at ht
        have h : t = 3 := by
          have hm := Array.mem_of_getElem? ht
          simp at hm
          first | omega | exact hm | exact hm.symm | (rcases hm with rfl | rfl <;> simp) | (rcases hm with rfl | rfl | rfl <;> simp)
        rcases h with rfl
        exact want3⟩)
    (by kernel_rfl)
#print axioms card
end Go.Proofs.YtlgpkbhajloajaaDoor.poolDirty
namespace Go.Proofs.YtlgpkbhajloajaaDoor
/-- The card, under a short name, for the claim. -/
theorem poolDirty_card : Rows.PoolDirtyCardSaid := poolDirty.card
end Go.Proofs.YtlgpkbhajloajaaDoor
