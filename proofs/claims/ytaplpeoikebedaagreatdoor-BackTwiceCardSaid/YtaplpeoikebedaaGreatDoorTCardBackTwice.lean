/- BackTwice is true whatever the input; no condition but that api's errors are what their text says. -/
import Derived.Test.YtaplpeoikebedaaGreatDoorRows
import Derived.Test.YtaplpeoikebedaaGreatDoorCards
import Derived.Test.YtaplpeoikebedaaGreatDoorTie
import Derived.Test.YtaplpeoikebedaaGreatDoorFactsBackTwice
import Derived.Test.YtaplpeoikebedaaGreatDoorT3
import Derived.Test.YtaplpeoikebedaaGreatDoorT42
import Derived.OpenShut
import Derived.ShutString
import Derived.ChangeOld
import Derived.SizedLaws
import Derived.SevenTiedAt
namespace Go.Proofs.YtaplpeoikebedaaGreatDoor.backTwice
open Go.ChangeShapes Go.WideShapes Go.ChangeAt Go.RowKit
open Go.ChangeMaps (open_string shut_string)
open Go.Proofs.YtaplpeoikebedaaGreatDoorW
set_option linter.unusedVariables false
theorem wf64b {n : Int} (h : (Lit.int .i64 n).wf = true) : -9223372036854775808 ≤ n ∧ n ≤ 9223372036854775807 := by
  simp [Lit.wf, IntKind.min, IntKind.max, IntKind.signed, IntKind.bits] at h; omega
set_option maxRecDepth 100000 in
theorem lifted (os : Os) (started : os.Started) (H : Type) (enc : TypeId × Value → H) :
    ReturnsInHanded {} Tryz.checked os 8 .any (fun w args => (Rows.backTwiceSpec.pre enc Tryz.prog Tryz.f8 [] false w args ∧ laidMetH Tryz.prog LaidBackTwice.list w) ∧ sizedMet enc Tryz.prog Tryz.f8 (OpenSpec.ofChange Rows.backTwiceSpec) false w args)
      (Rows.backTwiceSpec.post enc Tryz.prog Tryz.f8 false true false false) := by
  refine returnsInHanded_of_change_and (C := Tryz.checked) (X := fun w _ => laidMetH Tryz.prog LaidBackTwice.list w) (fun _ _ _ hh h => h.of_heap hh) LaidBackTwice.own started (by kernel_rfl) Tryz.func8
    (ChangeSpec.witness_shaped (enc := enc) (C := Tryz.checked) (os := os) (X := fun w _ => laidMetH Tryz.prog LaidBackTwice.list w) false (World.doorLaid Tryz.prog 351 os) #[.int .i64 0, .int .i64 0, .int .i64 0] 8 rfl (World.shaped_of_RefB (by kernel_rfl) (by kernel_rfl)) (by kernel_rfl) (by kernel_rfl) (by kernel_rfl) (LaidBackTwice.door_met os _)) ?_
  intro W base args ds gs before hval0 hW _ _ hL _
  have hval : ∀ (j : Nat) t v, Tryz.f8.params[j]? = some t → args[j]? = some v → Value.okWide Tryz.prog W .any base t v := hval0
  have hW' := hW
  obtain ⟨p, q, hA0, hV, rfl, hfz, hnd⟩ := hW
  have hA : DataW.TrodAll enc Tryz.prog W 0 (fun _ => true) true Tryz.f8.params.toList args.toList ds p := hA0
  rw [Tryz.params8] at hA hval
  obtain ⟨v0, vs0, d0, ds0, p0, q0, hargs, rfl, rfl, h0, r0⟩ := trodAll_cons hA
  obtain ⟨v1, vs1, d1, ds1, p1, q1, rfl, rfl, rfl, h1, r1⟩ := trodAll_cons r0
  obtain ⟨v2, vs2, d2, ds2, p2, q2, rfl, rfl, rfl, h2, r2⟩ := trodAll_cons r1
  obtain ⟨rfl, rfl, rfl⟩ := trodAll_nil r2
  obtain rfl : args = #[v0, v1, v2] := by cases args; simp_all
  obtain ⟨rfl, rfl⟩ := trodVars_none hV
  obtain ⟨a0, rfl, rfl, rfl, w0⟩ := open_int Tryz.underlying3 (hval 0 3 v0 rfl rfl) h0
  obtain ⟨a1, rfl, rfl, rfl, w1⟩ := open_int Tryz.underlying3 (hval 1 3 v1 rfl rfl) h1
  obtain ⟨a2, rfl, rfl, rfl, w2⟩ := open_int Tryz.underlying2 (hval 2 2 v2 rfl rfl) h2
  obtain ⟨sa, hs⟩ := LaidBackTwice.sents_of hL
  clear hA0 hval0
  refine (Go.Proofs.YtaplpeoikebedaaGreatDoor.WalkBackTwice.twice_calls a0 a1 a2 (wf64b w2).1 (wf64b w2).2 sa W (hs.sub (by decide)) ).mono fun e W' ⟨he, bel⟩ => ?_
  subst he
  exact ⟨_, rfl, _, _, _, [], _, [], hW', trodAll_mk1 (shut_bool Tryz.underlying4 _), (trodAll_cons_mk (shut_int Tryz.underlying3 w0) (trodAll_cons_mk (shut_int Tryz.underlying3 w1) (trodAll_cons_mk (shut_int Tryz.underlying2 w2) trodAll_mk0))), rfl, bel.frame _, fun h => by cases h⟩
theorem over : Rows.backTwiceRow.holds Tryz.pinned (OpenSpec.ofChange Rows.backTwiceSpec) :=
  OpenClaim.holds_of_wide 8 Tryz.f8 rfl rfl rfl rfl rfl rfl rfl ⟨rfl, rfl, rfl, rfl, rfl⟩ rfl rfl rfl rfl rfl (by kernel_rfl) Tryz.func8 backTwiceFacts.closed
    (of_decide_eq_true (by kernel_rfl)) (by unfold Func.isWrapper; first | (rw [if_pos (by decide +kernel)]; kernel_rfl) | (rw [if_neg (by decide +kernel)]; exact ⟨rfl, rfl⟩))
    (fun os started H enc _ => lifted os started H enc)
theorem want2 : Tryz.prog.wantsStandIn 2 = false := by kernel_rfl
theorem want3 : Tryz.prog.wantsStandIn 3 = false := by kernel_rfl
theorem card : Rows.BackTwiceCardSaid :=
  Claim7.holds_tied_plain_at .later [] [.sentinel, .sentinel, .sentinel, .sentinel, .sentinel, .sentinel, .sentinel, .sentinel, .sentinel, .sentinel, .sentinel, .sentinel, .sentinel, .sentinel, .sentinel, .sentinel, .sentinel, .sentinel] true (true, "3f929ad2f65dbfeb90cc299acd79fc021bc01e2d2813fdadbea8d3b0b000a647") true
    over (fun _ h => by cases h) (by kernel_rfl) (fun _ h => by cases h) backTwice_row_tie rfl ⟨rfl, rfl⟩ (by kernel_rfl) rfl
    (fun f fn hf hfn => by
      obtain rfl : f = 8 := Option.some.inj ((show Tryz.prog.funcNamed "phoenix/phoenixlaw18.BackTwice" = some 8 by kernel_rfl).symm.trans hf) |>.symm
      obtain rfl : fn = Tryz.f8 := (Option.some.inj (Tryz.func8.symm.trans hfn)).symm
      exact ⟨by kernel_rfl, fun j t ht => by
        rw [Tryz.params8] at ht
        have h : t = 2 ∨ t = 3 := by
          have hm := Array.mem_of_getElem? ht
          simp at hm
          first | omega | exact hm | exact hm.symm | (rcases hm with rfl | rfl <;> simp) | (rcases hm with rfl | rfl | rfl <;> simp)
        rcases h with rfl | rfl
        · exact want2
        · exact want3⟩)
    (by kernel_rfl)
#print axioms card
end Go.Proofs.YtaplpeoikebedaaGreatDoor.backTwice
namespace Go.Proofs.YtaplpeoikebedaaGreatDoor
/-- The card, under a short name, for the claim. -/
theorem backTwice_card : Rows.BackTwiceCardSaid := backTwice.card
end Go.Proofs.YtaplpeoikebedaaGreatDoor
