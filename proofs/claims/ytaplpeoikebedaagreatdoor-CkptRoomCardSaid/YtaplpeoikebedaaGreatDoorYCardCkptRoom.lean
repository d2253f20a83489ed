/- CkptRoom is true whatever the input; no condition but that api's errors are what their text says. -/
import Derived.Test.YtaplpeoikebedaaGreatDoorRows
import Derived.Test.YtaplpeoikebedaaGreatDoorCards
import Derived.Test.YtaplpeoikebedaaGreatDoorTie
import Derived.Test.YtaplpeoikebedaaGreatDoorFactsCkptRoom
import Derived.Test.YtaplpeoikebedaaGreatDoorY3
import Derived.Test.YtaplpeoikebedaaGreatDoorY43
import Derived.OpenShut
import Derived.ShutString
import Derived.ChangeOld
import Derived.SizedLaws
import Derived.SevenTiedAt
namespace Go.Proofs.YtaplpeoikebedaaGreatDoor.ckptRoom
open Go.ChangeShapes Go.WideShapes Go.ChangeAt Go.RowKit
open Go.ChangeMaps (open_string shut_string)
open Go.Proofs.YtaplpeoikebedaaGreatDoorW
set_option linter.unusedVariables false
set_option maxRecDepth 100000 in
theorem lifted (os : Os) (started : os.Started) (H : Type) (enc : TypeId × Value → H) :
    ReturnsInHanded {} Tryz.checked os 10 .any (fun w args => (Rows.ckptRoomSpec.pre enc Tryz.prog Tryz.f10 [] false w args ∧ laidMetH Tryz.prog LaidCkptRoom.list w) ∧ sizedMet enc Tryz.prog Tryz.f10 (OpenSpec.ofChange Rows.ckptRoomSpec) false w args)
      (Rows.ckptRoomSpec.post enc Tryz.prog Tryz.f10 false true false false) := by
  refine returnsInHanded_of_change_and (C := Tryz.checked) (X := fun w _ => laidMetH Tryz.prog LaidCkptRoom.list w) (fun _ _ _ hh h => h.of_heap hh) LaidCkptRoom.own started (by kernel_rfl) Tryz.func10
    (ChangeSpec.witness_shaped (enc := enc) (C := Tryz.checked) (os := os) (X := fun w _ => laidMetH Tryz.prog LaidCkptRoom.list w) false (World.doorLaid Tryz.prog 351 os) #[.int .i64 0, .int .i64 0] 8 rfl (World.shaped_of_RefB (by kernel_rfl) (by kernel_rfl)) (by kernel_rfl) (by kernel_rfl) (by kernel_rfl) (LaidCkptRoom.door_met os _)) ?_
  intro W base args ds gs before hval0 hW _ _ hL _
  have hval : ∀ (j : Nat) t v, Tryz.f10.params[j]? = some t → args[j]? = some v → Value.okWide Tryz.prog W .any base t v := hval0
  have hW' := hW
  obtain ⟨p, q, hA0, hV, rfl, hfz, hnd⟩ := hW
  have hA : DataW.TrodAll enc Tryz.prog W 0 (fun _ => true) true Tryz.f10.params.toList args.toList ds p := hA0
  rw [Tryz.params10] at hA hval
  obtain ⟨v0, vs0, d0, ds0, p0, q0, hargs, rfl, rfl, h0, r0⟩ := trodAll_cons hA
  obtain ⟨v1, vs1, d1, ds1, p1, q1, rfl, rfl, rfl, h1, r1⟩ := trodAll_cons r0
  obtain ⟨rfl, rfl, rfl⟩ := trodAll_nil r1
  obtain rfl : args = #[v0, v1] := by cases args; simp_all
  obtain ⟨rfl, rfl⟩ := trodVars_none hV
  obtain ⟨a0, rfl, rfl, rfl, w0⟩ := open_int Tryz.underlying3 (hval 0 3 v0 rfl rfl) h0
  obtain ⟨a1, rfl, rfl, rfl, w1⟩ := open_int Tryz.underlying3 (hval 1 3 v1 rfl rfl) h1
  obtain ⟨sa, hs⟩ := LaidCkptRoom.sents_of hL
  clear hA0 hval0
  refine (WalkCkptRoom.room_calls a0 a1 sa W (hs.sub (by decide)) ).mono fun e W' ⟨he, bel⟩ => ?_
  subst he
  exact ⟨_, rfl, _, _, _, [], _, [], hW', trodAll_mk1 (shut_bool Tryz.underlying4 _), (trodAll_cons_mk (shut_int Tryz.underlying3 w0) (trodAll_cons_mk (shut_int Tryz.underlying3 w1) trodAll_mk0)), rfl, bel.frame _, fun h => by cases h⟩
theorem over : Rows.ckptRoomRow.holds Tryz.pinned (OpenSpec.ofChange Rows.ckptRoomSpec) :=
  OpenClaim.holds_of_wide 10 Tryz.f10 rfl rfl rfl rfl rfl rfl rfl ⟨rfl, rfl, rfl, rfl, rfl⟩ rfl rfl rfl rfl rfl (by kernel_rfl) Tryz.func10 ckptRoomFacts.closed
    (of_decide_eq_true (by kernel_rfl)) (by unfold Func.isWrapper; first | (rw [if_pos (by decide +kernel)]; kernel_rfl) | (rw [if_neg (by decide +kernel)]; exact ⟨rfl, rfl⟩))
    (fun os started H enc _ => lifted os started H enc)
theorem want3 : Tryz.prog.wantsStandIn 3 = false := by kernel_rfl
theorem card : Rows.CkptRoomCardSaid :=
  Claim7.holds_tied_plain_at .later [] [.sentinel, .sentinel, .sentinel, .sentinel, .sentinel, .sentinel, .sentinel, .sentinel, .sentinel, .sentinel, .sentinel, .sentinel, .sentinel, .sentinel, .sentinel, .sentinel, .sentinel, .sentinel] true (true, "3f929ad2f65dbfeb90cc299acd79fc021bc01e2d2813fdadbea8d3b0b000a647") true
    over (fun _ h => by cases h) (by kernel_rfl) (fun _ h => by cases h) ckptRoom_row_tie rfl ⟨rfl, rfl⟩ (by kernel_rfl) rfl
    (fun f fn hf hfn => by
      obtain rfl : f = 10 := Option.some.inj ((show Tryz.prog.funcNamed "phoenix/phoenixlaw19.CkptRoom" = some 10 by kernel_rfl).symm.trans hf) |>.symm
      obtain rfl : fn = Tryz.f10 := (Option.some.inj (Tryz.func10.symm.trans hfn)).symm
      exact ⟨by kernel_rfl, fun j t ht => by
        rw [Tryz.params10] at ht
        have h : t = 3 := by
          have hm := Array.mem_of_getElem? ht
          simp at hm
          first | omega | exact hm | exact hm.symm | (rcases hm with rfl | rfl <;> simp) | (rcases hm with rfl | rfl | rfl | rfl <;> simp) | (rcases hm with rfl | rfl | rfl <;> simp)
        rcases h with rfl
        exact want3⟩)
    (by kernel_rfl)
#print axioms card
end Go.Proofs.YtaplpeoikebedaaGreatDoor.ckptRoom
namespace Go.Proofs.YtaplpeoikebedaaGreatDoor
/-- The card, under a short name, for the claim. -/
theorem ckptRoom_card : Rows.CkptRoomCardSaid := ckptRoom.card
end Go.Proofs.YtaplpeoikebedaaGreatDoor
