/-
  No cell of these rows narrows 'for every input' (looked for: loops, veiled, ifaces, maps, wideKeys, modest, calm, conditions, laid).
  DERIVED. THE GIVEN ROWS OF THIS SEAT. 7 by the template 'for every input the law returns true; each argument reads behind the call as it read before'; 0 by the template 'total and deterministic' (their statements: YtfnahgmajdjepaaTotals.lean).
  GIVEN WITH THE SEED: the statements are not yours to turn. If you find one false, say at which input.
  Laid BY PROGRAM, IN A SANDBOX (cutbox-rows.mjs): the forced cells as the released guide's own fill.sh prints them over the translation 558041016e8dd797… (all of the seat's roots in one cut). By AI agents, Wed Nov 11 2026. No macro, syntax, notation, axiom, sorry.
-/
import Derived.Test.YtfnahgmajdjepaaChecked
import GoSem.Claim
import GoSem.ClaimJoined
import GoSem.ClaimMapViews
import Derived.JoinedTies
import Derived.KernelRfl
namespace Go.Proofs.Ytfnahgmajdjepaa
/- THE CELL 'sum', in the pinned program and in every row, IS THE sha256 OF THE DUMP (.gsa) THAT YtfnahgmajdjepaaProg.lean LOADS. Nothing in Lean hashes anything: it is a label: what it is worth is what the hold of that sum in a sandbox is worth. -/
noncomputable def Try.pinned : Pinned := { name := "ytfnahgmajdjepaa", sum := "558041016e8dd797c124515434914c660ccf99ac34d2c6534e7bb489445eb197", checked := Try.checked }
namespace Rows
def none {H : Type} : Left H := { results := [], args := [] }

/-- 'phoenixlaw9.PlaceApart': WHATEVER THE INPUT: true; the input reads as it did. -/
def placeApartSpec : ChangeSpec := { name := "placeApart", fn := fun _ => fun
  | [d1, d2] => { results := [.lit (.bool true)], args := [d1, d2] }
  | _ => none }
def placeApartRow : OpenClaim := { program := "ytfnahgmajdjepaa", sum := "558041016e8dd797c124515434914c660ccf99ac34d2c6534e7bb489445eb197", func := "phoenix/phoenixlaw9.PlaceApart", spec := "placeApart", apart := false }
def PlaceApartSaid : Prop := placeApartRow.holds Try.pinned (OpenSpec.ofChange placeApartSpec)

/-- ITS FALSE NEIGHBOUR: 'it returns false'. Refute it at one input. -/
def placeApartWrong : ChangeSpec := { name := "placeApart", fn := fun _ => fun
  | [d1, d2] => { results := [.lit (.bool false)], args := [d1, d2] }
  | _ => none }
def PlaceApartWrongFalsely : Prop := placeApartRow.holds Try.pinned (OpenSpec.ofChange placeApartWrong)

/-- 'phoenixlaw9.PlaceRoom': WHATEVER THE INPUT: true; the input reads as it did. -/
def placeRoomSpec : ChangeSpec := { name := "placeRoom", fn := fun _ => fun
  | [d1, d2] => { results := [.lit (.bool true)], args := [d1, d2] }
  | _ => none }
def placeRoomRow : OpenClaim := { program := "ytfnahgmajdjepaa", sum := "558041016e8dd797c124515434914c660ccf99ac34d2c6534e7bb489445eb197", func := "phoenix/phoenixlaw9.PlaceRoom", spec := "placeRoom", apart := false }
def PlaceRoomSaid : Prop := placeRoomRow.holds Try.pinned (OpenSpec.ofChange placeRoomSpec)

/-- ITS FALSE NEIGHBOUR: 'it returns false'. Refute it at one input. -/
def placeRoomWrong : ChangeSpec := { name := "placeRoom", fn := fun _ => fun
  | [d1, d2] => { results := [.lit (.bool false)], args := [d1, d2] }
  | _ => none }
def PlaceRoomWrongFalsely : Prop := placeRoomRow.holds Try.pinned (OpenSpec.ofChange placeRoomWrong)

/-- 'phoenixlaw24.PartsOwner': WHATEVER THE INPUT: true; the input reads as it did. -/
def partsOwnerSpec : ChangeSpec := { name := "partsOwner", fn := fun _ => fun
  | [d1, d2, d3] => { results := [.lit (.bool true)], args := [d1, d2, d3] }
  | _ => none }
def partsOwnerRow : OpenClaim := { program := "ytfnahgmajdjepaa", sum := "558041016e8dd797c124515434914c660ccf99ac34d2c6534e7bb489445eb197", func := "phoenix/phoenixlaw24.PartsOwner", spec := "partsOwner", apart := false }
def PartsOwnerSaid : Prop := partsOwnerRow.holds Try.pinned (OpenSpec.ofChange partsOwnerSpec)

/-- ITS FALSE NEIGHBOUR: 'it returns false'. Refute it at one input. -/
def partsOwnerWrong : ChangeSpec := { name := "partsOwner", fn := fun _ => fun
  | [d1, d2, d3] => { results := [.lit (.bool false)], args := [d1, d2, d3] }
  | _ => none }
def PartsOwnerWrongFalsely : Prop := partsOwnerRow.holds Try.pinned (OpenSpec.ofChange partsOwnerWrong)

/-- 'phoenixlaw9.PlaceSame': WHATEVER THE INPUT: true; the input reads as it did. -/
def placeSameSpec : ChangeSpec := { name := "placeSame", fn := fun _ => fun
  | [d1, d2, d3] => { results := [.lit (.bool true)], args := [d1, d2, d3] }
  | _ => none }
def placeSameRow : OpenClaim := { program := "ytfnahgmajdjepaa", sum := "558041016e8dd797c124515434914c660ccf99ac34d2c6534e7bb489445eb197", func := "phoenix/phoenixlaw9.PlaceSame", spec := "placeSame", apart := false }
def PlaceSameSaid : Prop := placeSameRow.holds Try.pinned (OpenSpec.ofChange placeSameSpec)

/-- ITS FALSE NEIGHBOUR: 'it returns false'. Refute it at one input. -/
def placeSameWrong : ChangeSpec := { name := "placeSame", fn := fun _ => fun
  | [d1, d2, d3] => { results := [.lit (.bool false)], args := [d1, d2, d3] }
  | _ => none }
def PlaceSameWrongFalsely : Prop := placeSameRow.holds Try.pinned (OpenSpec.ofChange placeSameWrong)

/-- 'phoenixlaw9.PlaceSays': WHATEVER THE INPUT: true; the input reads as it did. -/
def placeSaysSpec : ChangeSpec := { name := "placeSays", fn := fun _ => fun
  | [d1, d2, d3, d4, d5] => { results := [.lit (.bool true)], args := [d1, d2, d3, d4, d5] }
  | _ => none }
def placeSaysRow : OpenClaim := { program := "ytfnahgmajdjepaa", sum := "558041016e8dd797c124515434914c660ccf99ac34d2c6534e7bb489445eb197", func := "phoenix/phoenixlaw9.PlaceSays", spec := "placeSays", apart := false }
def PlaceSaysSaid : Prop := placeSaysRow.holds Try.pinned (OpenSpec.ofChange placeSaysSpec)

/-- ITS FALSE NEIGHBOUR: 'it returns false'. Refute it at one input. -/
def placeSaysWrong : ChangeSpec := { name := "placeSays", fn := fun _ => fun
  | [d1, d2, d3, d4, d5] => { results := [.lit (.bool false)], args := [d1, d2, d3, d4, d5] }
  | _ => none }
def PlaceSaysWrongFalsely : Prop := placeSaysRow.holds Try.pinned (OpenSpec.ofChange placeSaysWrong)

/-- 'phoenixlaw9.PlaceKeys': WHATEVER THE INPUT: true; the input reads as it did. -/
def placeKeysSpec : ChangeSpec := { name := "placeKeys", fn := fun _ => fun
  | [d1, d2, d3] => { results := [.lit (.bool true)], args := [d1, d2, d3] }
  | _ => none }
def placeKeysRow : OpenClaim := { program := "ytfnahgmajdjepaa", sum := "558041016e8dd797c124515434914c660ccf99ac34d2c6534e7bb489445eb197", func := "phoenix/phoenixlaw9.PlaceKeys", spec := "placeKeys", apart := false }
def PlaceKeysSaid : Prop := placeKeysRow.holds Try.pinned (OpenSpec.ofChange placeKeysSpec)

/-- ITS FALSE NEIGHBOUR: 'it returns false'. Refute it at one input. -/
def placeKeysWrong : ChangeSpec := { name := "placeKeys", fn := fun _ => fun
  | [d1, d2, d3] => { results := [.lit (.bool false)], args := [d1, d2, d3] }
  | _ => none }
def PlaceKeysWrongFalsely : Prop := placeKeysRow.holds Try.pinned (OpenSpec.ofChange placeKeysWrong)

/-- 'phoenixlaw24.PartsOf': WHATEVER THE INPUT: true; the input reads as it did. -/
def partsOfSpec : ChangeSpec := { name := "partsOf", fn := fun _ => fun
  | [d1, d2, d3] => { results := [.lit (.bool true)], args := [d1, d2, d3] }
  | _ => none }
def partsOfRow : OpenClaim := { program := "ytfnahgmajdjepaa", sum := "558041016e8dd797c124515434914c660ccf99ac34d2c6534e7bb489445eb197", func := "phoenix/phoenixlaw24.PartsOf", spec := "partsOf", apart := false }
def PartsOfSaid : Prop := partsOfRow.holds Try.pinned (OpenSpec.ofChange partsOfSpec)

/-- ITS FALSE NEIGHBOUR: 'it returns false'. Refute it at one input. -/
def partsOfWrong : ChangeSpec := { name := "partsOf", fn := fun _ => fun
  | [d1, d2, d3] => { results := [.lit (.bool false)], args := [d1, d2, d3] }
  | _ => none }
def PartsOfWrongFalsely : Prop := partsOfRow.holds Try.pinned (OpenSpec.ofChange partsOfWrong)

/- THE SECOND FORM. 'bulk': how many values and letters a reading holds, each counted each time it is reached (what is shared counts as often as it is met; a slice's spare places count too). A statement '..UptoSaid' is the law's where the arguments, and the package variables that the reading takes, are together of bulk at most 1048576: NARROWER than '..Said'. Prove '..Said' where nothing that the law and all that it calls make is longer than what came in: it says more and counts as full. Else prove '..UptoSaid'. A law counts once. -/
mutual
def uptoBulk {H : Type} : DataW H → Nat
  | .lit (.string bytes) => bytes.length + 1
  | .lit _ => 1
  | .nil => 1
  | .ptr d => uptoBulk d + 1
  | .slice elems spare => uptoBulkAll elems + uptoBulkAll spare + 1
  | .agg parts => uptoBulkAll parts + 1
  | .iface _ d => uptoBulk d + 1
  | .map entries => uptoBulkEntries entries + 1
  | .held _ => 1
def uptoBulkAll {H : Type} : List (DataW H) → Nat
  | [] => 0
  | d :: r => uptoBulk d + uptoBulkAll r
def uptoBulkEntries {H : Type} : List (Lit × DataW H) → Nat
  | [] => 0
  | x :: r => uptoBulkEntry x + uptoBulkEntries r
def uptoBulkEntry {H : Type} : Lit × DataW H → Nat
  | (.string bytes, d) => bytes.length + uptoBulk d + 1
  | (_, d) => uptoBulk d + 1
 end
def uptoSmall : (H : Type) → List (DataW H) → Bool := fun _ ds => decide (uptoBulkAll ds ≤ 1048576)
def OpenSpec.upto (s : _root_.Go.ChangeSpec) : _root_.Go.OpenSpec := { _root_.Go.OpenSpec.ofChange s with cond := some uptoSmall }

/-- 'phoenixlaw9.PlaceApart', WHERE WHAT IT READS IS OF BULK AT MOST 1048576: true; the input reads as it did. -/
def placeApartUptoRow : OpenClaim := { program := "ytfnahgmajdjepaa", sum := "558041016e8dd797c124515434914c660ccf99ac34d2c6534e7bb489445eb197", func := "phoenix/phoenixlaw9.PlaceApart", spec := "placeApart", apart := false, narrowed := true }
def PlaceApartUptoSaid : Prop := placeApartUptoRow.holds Try.pinned (OpenSpec.upto placeApartSpec)

/-- 'phoenixlaw9.PlaceRoom', WHERE WHAT IT READS IS OF BULK AT MOST 1048576: true; the input reads as it did. -/
def placeRoomUptoRow : OpenClaim := { program := "ytfnahgmajdjepaa", sum := "558041016e8dd797c124515434914c660ccf99ac34d2c6534e7bb489445eb197", func := "phoenix/phoenixlaw9.PlaceRoom", spec := "placeRoom", apart := false, narrowed := true }
def PlaceRoomUptoSaid : Prop := placeRoomUptoRow.holds Try.pinned (OpenSpec.upto placeRoomSpec)

/-- 'phoenixlaw24.PartsOwner', WHERE WHAT IT READS IS OF BULK AT MOST 1048576: true; the input reads as it did. -/
def partsOwnerUptoRow : OpenClaim := { program := "ytfnahgmajdjepaa", sum := "558041016e8dd797c124515434914c660ccf99ac34d2c6534e7bb489445eb197", func := "phoenix/phoenixlaw24.PartsOwner", spec := "partsOwner", apart := false, narrowed := true }
def PartsOwnerUptoSaid : Prop := partsOwnerUptoRow.holds Try.pinned (OpenSpec.upto partsOwnerSpec)

/-- 'phoenixlaw9.PlaceSame', WHERE WHAT IT READS IS OF BULK AT MOST 1048576: true; the input reads as it did. -/
def placeSameUptoRow : OpenClaim := { program := "ytfnahgmajdjepaa", sum := "558041016e8dd797c124515434914c660ccf99ac34d2c6534e7bb489445eb197", func := "phoenix/phoenixlaw9.PlaceSame", spec := "placeSame", apart := false, narrowed := true }
def PlaceSameUptoSaid : Prop := placeSameUptoRow.holds Try.pinned (OpenSpec.upto placeSameSpec)

/-- 'phoenixlaw9.PlaceSays', WHERE WHAT IT READS IS OF BULK AT MOST 1048576: true; the input reads as it did. -/
def placeSaysUptoRow : OpenClaim := { program := "ytfnahgmajdjepaa", sum := "558041016e8dd797c124515434914c660ccf99ac34d2c6534e7bb489445eb197", func := "phoenix/phoenixlaw9.PlaceSays", spec := "placeSays", apart := false, narrowed := true }
def PlaceSaysUptoSaid : Prop := placeSaysUptoRow.holds Try.pinned (OpenSpec.upto placeSaysSpec)

/-- 'phoenixlaw9.PlaceKeys', WHERE WHAT IT READS IS OF BULK AT MOST 1048576: true; the input reads as it did. -/
def placeKeysUptoRow : OpenClaim := { program := "ytfnahgmajdjepaa", sum := "558041016e8dd797c124515434914c660ccf99ac34d2c6534e7bb489445eb197", func := "phoenix/phoenixlaw9.PlaceKeys", spec := "placeKeys", apart := false, narrowed := true }
def PlaceKeysUptoSaid : Prop := placeKeysUptoRow.holds Try.pinned (OpenSpec.upto placeKeysSpec)

/-- 'phoenixlaw24.PartsOf', WHERE WHAT IT READS IS OF BULK AT MOST 1048576: true; the input reads as it did. -/
def partsOfUptoRow : OpenClaim := { program := "ytfnahgmajdjepaa", sum := "558041016e8dd797c124515434914c660ccf99ac34d2c6534e7bb489445eb197", func := "phoenix/phoenixlaw24.PartsOf", spec := "partsOf", apart := false, narrowed := true }
def PartsOfUptoSaid : Prop := partsOfUptoRow.holds Try.pinned (OpenSpec.upto partsOfSpec)

end Rows
end Go.Proofs.Ytfnahgmajdjepaa
