/- Slices of arrays and of structs of whole numbers, opened to their cells. No condition. -/
import Derived.Test.YtfnahgmajdjepaaDoorSee
import Derived.ProofKit
import Derived.OpenShut
import Derived.Deep.Slices
namespace Go.Proofs.YtfnahgmajdjepaaDoor.Open
open Go.ChangeShapes Go.WideShapes Go.Deep

/-- A slice whose elements are m whole numbers each. -/
def Nums (w : World) (A : Option Addr) (len m : Nat) (x : Nat → Nat → Int) : Prop :=
  ∀ i, i < len → ∃ ad, A = some ad ∧ ∀ j, j < m → w.cell? ((ad.add (i * m)).add j) = some (.int .i64 (x i j))

section
variable {H : Type} {enc : TypeId × Value → H} {P : Program} {w : World} {base : Nat} {spare : Nat → Bool} {held : Bool} {fuel : Nat} {t e ei : TypeId} {x : DataW H × List MemPlace}

theorem nums_of_elems {A : Option Addr} {len cap m : Nat} (ht : P.underlying t = some (.slice e)) (hC : P.cellsOf e = m)
    (hel : ∀ (n : Nat) (cs : List Value) (y : DataW H × List MemPlace), DataW.trod enc P w base spare held n e cs = some y → ∀ j, j < m → ∃ k : Int, cs[j]? = some (.int .i64 k))
    (h : DataW.trod enc P w base spare held fuel t [.slice A len cap] = some x) : len ≤ maxLen ∧ ∃ f : Nat → Nat → Int, Nums w A len m f := by
  rcases open_slice ht h with ⟨h0, _⟩ | ⟨a, len', cap', m', n, D, Pl, hcs, hb, hl, hm, hmm, hx, hi⟩
  · simp at h0
    obtain ⟨rfl, rfl, rfl⟩ := h0
    exact ⟨Nat.zero_le _, fun _ _ => 0, fun i hi => absurd hi (Nat.not_lt_zero _)⟩
  · simp at hcs
    obtain ⟨rfl, rfl, rfl⟩ := hcs
    have hle : len ≤ m' := by rw [hmm]; split <;> omega
    refine ⟨by omega, ?_⟩
    obtain ⟨f, hf⟩ : ∃ f : Nat → (Nat → Int), ∀ i, i < len → ∀ j, j < m → w.cell? ((a.add (i * m)).add j) = some (.int .i64 (f i j)) := by
      refine choose_lt (p := fun i (g : Nat → Int) => ∀ j, j < m → w.cell? ((a.add (i * m)).add j) = some (.int .i64 (g j))) ?_
      intro i hil
      refine choose_lt (p := fun j (k : Int) => w.cell? ((a.add (i * m)).add j) = some (.int .i64 k)) ?_
      intro j hj
      obtain ⟨cs', hc, ht'⟩ := hi i (by omega)
      rw [hC] at hc
      obtain ⟨_, hcl, hat⟩ := World.cells?_some hc
      obtain ⟨k, hk⟩ := hel _ _ _ ht' j hj
      exact ⟨k, (hat j hj).trans hk⟩
    exact ⟨f, fun i hil => ⟨a, rfl, hf i hil⟩⟩

theorem one_of {cs : List Value} {j : Nat} {v : Value} (h : (cs.drop j).take 1 = [v]) : cs[j]? = some v := by
  have : ((cs.drop j).take 1)[0]? = some v := by rw [h]; rfl
  rw [List.getElem?_take, if_pos (by omega), List.getElem?_drop] at this
  simpa using this

theorem array_elem {m : Nat} (he : P.underlying e = some (.array m ei)) (hei : P.underlying ei = some (.int .i64)) (hci : P.cellsOf ei = 1) (n : Nat) (cs : List Value) (y : DataW H × List MemPlace)
    (h : DataW.trod enc P w base spare held n e cs = some y) : ∀ j, j < m → ∃ k : Int, cs[j]? = some (.int .i64 k) := by
  intro j hj
  obtain ⟨xs, q, _, _, _, hlen, hat⟩ := DataW.trod_array he h
  have := hat j hj
  rw [hci, Nat.mul_one, List.getElem?_eq_getElem (by omega)] at this
  obtain ⟨k, hk, _⟩ := DataW.trod_int hei this
  exact ⟨k, one_of hk⟩

theorem struct_elem {fs : Array Field} (he : P.underlying e = some (.struct fs)) (hei : P.underlying ei = some (.int .i64)) (hci : P.cellsOf ei = 1) (hfs : ∀ (j : Nat) (f : Field), fs[j]? = some f → f.offset = j ∧ f.type = ei) (n : Nat) (cs : List Value) (y : DataW H × List MemPlace)
    (h : DataW.trod enc P w base spare held n e cs = some y) : ∀ j, j < fs.size → ∃ k : Int, cs[j]? = some (.int .i64 k) := by
  intro j hj
  obtain ⟨xs, q, _, _, _, hlen, hat⟩ := DataW.trod_struct he h
  have hf : fs[j]? = some (fs[j]'hj) := Array.getElem?_eq_getElem hj
  obtain ⟨h1, h2⟩ := hfs j _ hf
  have := hat j _ hf
  rw [h1, h2, hci, List.getElem?_eq_getElem (by omega)] at this
  obtain ⟨k, hk, _⟩ := DataW.trod_int hei this
  exact ⟨k, one_of hk⟩
end

end Go.Proofs.YtfnahgmajdjepaaDoor.Open
