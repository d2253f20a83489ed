/- Plain: what a page's first keys are. No condition. -/
import Derived.Test.YtfnahgmajdjepaaPlaceFacts
import Derived.Test.YtfnahgmajdjepaaPlaceMany
namespace Go.Proofs.Ytfnahgmajdjepaa.KeysFacts
open Go.RowKit Go.Proofs.Ytfnahgmajdjepaa.PPlaceSays Go.Proofs.YtfnahgmajdjepaaW.PrintWords Go.Proofs.YtfnahgmajdjepaaW.PrintLast Go.Proofs.YtfnahgmajdjepaaW.PrintMore
open Go.Proofs.Ytfnahgmajdjepaa.Facts

/-- The keys below n that are on page g of q. -/
def keysTo (q g : Int) : Nat → List Int
  | 0 => []
  | n + 1 => if 1 + half n % q = g then keysTo q g n ++ [(n : Int)] else keysTo q g n

theorem keysTo_le (q g : Int) : ∀ n, (keysTo q g n).length ≤ n
  | 0 => by simp [keysTo]
  | n + 1 => by
    have := keysTo_le q g n
    unfold keysTo; split <;> simp <;> omega

theorem keysTo_mono (q g : Int) (a : Nat) : ∀ b, a ≤ b → keysTo q g a <+: keysTo q g b
  | 0, h => by obtain rfl : a = 0 := by omega
               exact List.prefix_refl _
  | b + 1, h => by
    by_cases e : a = b + 1
    · subst e; exact List.prefix_refl _
    · have := keysTo_mono q g a b (by omega)
      refine this.trans ?_
      conv => rhs; unfold keysTo
      split
      · exact List.prefix_append _ _
      · exact List.prefix_refl _

theorem keysTo_len_mono (q g : Int) {a b : Nat} (h : a ≤ b) : (keysTo q g a).length ≤ (keysTo q g b).length := (keysTo_mono q g a b h).length_le

theorem keysTo_cnt (q g : Nat) (hq : 1 ≤ q) : ∀ n, (keysTo q (g + 1) n).length = Many.cnt q g n
  | 0 => rfl
  | n + 1 => by
    have ih := keysTo_cnt q g hq n
    have e : half n % (q : Int) = ((n * 2654435761 % 4294967296 / 65536 % q : Nat) : Int) := by
      unfold half; simp
    unfold keysTo Many.cnt
    rw [e]
    by_cases h : n * 2654435761 % 4294967296 / 65536 % q = g
    · have hb : Nat.beq (n * 2654435761 % 4294967296 / 65536 % q) g = true := by rw [h]; exact Nat.beq_refl g
      rw [if_pos (by omega), hb]; simp [ih]
    · have hb : Nat.beq (n * 2654435761 % 4294967296 / 65536 % q) g = false := by
        cases hx : Nat.beq (n * 2654435761 % 4294967296 / 65536 % q) g with
        | false => rfl
        | true => exact absurd (Nat.eq_of_beq_eq_true hx) h
      rw [if_neg (by omega), hb]; simp [ih]

theorem keysTo_many (q g : Int) (h1 : 1 ≤ q) (h2 : q ≤ 32) (h3 : 1 ≤ g) (h4 : g ≤ q) : 30 ≤ (keysTo q g 1900).length := by
  obtain ⟨q, rfl⟩ := Int.eq_ofNat_of_zero_le (show 0 ≤ q by omega)
  obtain ⟨g', hg⟩ := Int.eq_ofNat_of_zero_le (show 0 ≤ g - 1 by omega)
  obtain rfl : g = (g' : Int) + 1 := by omega
  rw [keysTo_cnt q g' (by omega)]
  exact Many.many q g' (by omega) (by omega) (by omega)

theorem keys_run (q g : Int) (hq : 1 ≤ q) (n N : Nat) (hN : N ≤ 1048576) (hn : n ≤ (keysTo q g N).length) (d : Nat) : ∀ (k i : Nat), i ≤ N → N - i = d → 2 * d + 2 ≤ k → (keysTo q g i).length ≤ n → (∀ j, j < i → (keysTo q g j).length < n) →
    ∃ m, m ≤ N ∧ place_Keys.l0 k g q n (keysTo q g i) i = some (keysTo q g m) ∧ (keysTo q g m).length = n ∧ ∀ j, j < m → (keysTo q g j).length < n := by
  have hm : mx q 1 = q := by unfold mx; split <;> omega
  induction d with
  | zero =>
    intro k i hi hd hk hl hj
    obtain rfl : i = N := by omega
    obtain ⟨k, rfl⟩ : ∃ m, k = m + 2 := ⟨k - 2, by omega⟩
    exact ⟨i, by omega, keys_full g q n k _ i (by omega), by omega, hj⟩
  | succ d ih =>
    intro k i hi hd hk hl hj
    obtain ⟨k, rfl⟩ : ∃ m, k = m + 2 := ⟨k - 2, by omega⟩
    by_cases h : (keysTo q g i).length < n
    · have := keysTo_le q g i
      rw [keys_round g q n k _ i (by omega) (by omega) (by omega) (by omega), hm]
      have hnext : (keysTo q g (i + 1)).length ≤ n := by
        conv => lhs; unfold keysTo
        split
        · simp; omega
        · omega
      have hj' : ∀ j, j < i + 1 → (keysTo q g j).length < n := by
        intro j hji
        by_cases e : j = i
        · subst e; exact h
        · exact hj j (by omega)
      have := ih k (i + 1) (by omega) (by omega) (by omega) hnext hj'
      have e : keysTo q g (i + 1) = if 1 + half i % q = g then keysTo q g i ++ [(i : Int)] else keysTo q g i := rfl
      rw [show ((i + 1 : Nat) : Int) = (i : Int) + 1 from by omega] at this
      by_cases hb : 1 + half i % q = g
      · rw [if_pos hb] at e ⊢
        rw [e] at this; exact this
      · rw [if_neg hb] at e ⊢
        rw [e] at this; exact this
    · exact ⟨i, by omega, keys_full g q n k _ i (by omega), by omega, hj⟩

/-- A page's first keys: those up to a number, the last of which it is. -/
theorem keys_first (q g n : Int) (h1 : 1 ≤ q) (h2 : q ≤ 32) (h3 : 1 ≤ g) (h4 : g ≤ q) (hn0 : 1 ≤ n) (hn : n ≤ 30) :
    ∃ k, ∃ m : Nat, place_Keys.f k g q n = some (keysTo q g (m + 1)) ∧ m + 1 ≤ 1900 ∧ ((keysTo q g (m + 1)).length : Int) = n ∧ keysTo q g (m + 1) = keysTo q g m ++ [(m : Int)] := by
  obtain ⟨n, rfl⟩ := Int.eq_ofNat_of_zero_le (show 0 ≤ n by omega)
  have hm := keysTo_many q g h1 h2 h3 h4
  obtain ⟨m, hm1, hm2, hm3, hm4⟩ := keys_run q g h1 n 1900 (by omega) (by omega) 1900 4000 0 (by omega) (by omega) (by omega) (by simp [keysTo]) (by omega)
  have hmx : mx q 1 = q := by unfold mx; split <;> omega
  cases m with
  | zero => simp [keysTo] at hm3; omega
  | succ m =>
    refine ⟨4001, m, ?_, hm1, by omega, ?_⟩
    · unfold place_Keys.f
      rw [if_neg (by omega)]
      have : decide (g > mx q 1) = false := by simp; omega
      rw [this]
      simp only [place_Keys.j0]
      rw [if_neg (by simp)]
      exact hm2
    · have := hm4 m (by omega)
      have e : keysTo q g (m + 1) = if 1 + half m % q = g then keysTo q g m ++ [(m : Int)] else keysTo q g m := rfl
      by_cases hb : 1 + half m % q = g
      · rw [if_pos hb] at e; exact e
      · rw [if_neg hb] at e
        rw [e] at hm3; omega

theorem rd_last (l : List Int) (x : Int) (n : Int) (h : ((l ++ [x]).length : Int) = n) : rd (l ++ [x]) (n - 1) = x := by
  unfold rd
  have : (n - 1).toNat = l.length := by simp at h; omega
  rw [this]; simp

/-- The next key stands where it is asked for. -/
theorem rd_next (q g : Int) (m k : Nat) (h : k < m) (hb : 1 + half k % q = g) : rd (keysTo q g m) ((keysTo q g k).length : Int) = k := by
  have e : keysTo q g (k + 1) = keysTo q g k ++ [(k : Int)] := by
    have e : keysTo q g (k + 1) = if 1 + half k % q = g then keysTo q g k ++ [(k : Int)] else keysTo q g k := rfl
    rw [if_pos hb] at e; exact e
  obtain ⟨t, ht⟩ := keysTo_mono q g (k + 1) m (by omega)
  unfold rd
  rw [← ht, e]
  simp

theorem len_next (q g : Int) (k : Nat) : ((keysTo q g (k + 1)).length : Int) = if 1 + half k % q = g then ((keysTo q g k).length : Int) + 1 else (keysTo q g k).length := by
  have e : keysTo q g (k + 1) = if 1 + half k % q = g then keysTo q g k ++ [(k : Int)] else keysTo q g k := rfl
  rw [e]
  split <;> simp

theorem keys_zero (q g : Int) (h1 : 1 ≤ q) (h3 : 1 ≤ g) (h4 : g ≤ q) : place_Keys.f 3 g q 0 = some [] := by
  have hmx : mx q 1 = q := by unfold mx; split <;> omega
  unfold place_Keys.f
  rw [if_neg (by omega)]
  have : decide (g > mx q 1) = false := by simp; omega
  rw [this]
  simp only [place_Keys.j0]
  rw [if_neg (by simp)]
  exact keys_full g q 0 0 [] 0 (by simp)

theorem keys_none0 (q : Int) (n : Int) : place_Keys.f 3 0 q n = some [] := by
  unfold place_Keys.f
  rw [if_pos (by omega)]
  simp [place_Keys.j0]

end Go.Proofs.Ytfnahgmajdjepaa.KeysFacts
