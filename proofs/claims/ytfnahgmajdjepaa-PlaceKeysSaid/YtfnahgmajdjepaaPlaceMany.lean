/- Plain: each page of so many has thirty keys among the first nineteen hundred. No condition. -/
namespace Go.Proofs.Ytfnahgmajdjepaa.Many

/-- How many of the numbers below n have this remainder. -/
def cnt (q g : Nat) : Nat → Nat
  | 0 => 0
  | n + 1 => bif Nat.beq (n * 2654435761 % 4294967296 / 65536 % q) g then Nat.succ (cnt q g n) else cnt q g n

def pagesOk (q : Nat) : Nat → Bool
  | 0 => true
  | g + 1 => bif Nat.ble 30 (cnt q g 1900) then pagesOk q g else false

def allOk : Nat → Bool
  | 0 => true
  | q + 1 => bif pagesOk (q + 1) (q + 1) then allOk q else false

theorem all_ok : allOk 32 = true := by decide +kernel

theorem pages_ok {q : Nat} : ∀ (n : Nat), pagesOk q n = true → ∀ g, g < n → 30 ≤ cnt q g 1900
  | 0, _, _, hg => absurd hg (Nat.not_lt_zero _)
  | n + 1, h, g, hg => by
    unfold pagesOk at h
    cases hb : Nat.ble 30 (cnt q n 1900) with
    | false => rw [hb] at h; exact absurd h (by simp)
    | true =>
      rw [hb] at h
      rcases Nat.lt_succ_iff_lt_or_eq.1 hg with h1 | h1
      · exact pages_ok n h g h1
      · subst h1; exact Nat.le_of_ble_eq_true hb

theorem every_ok : ∀ (n : Nat), allOk n = true → ∀ q, 1 ≤ q → q ≤ n → pagesOk q q = true
  | 0, _, _, h1, h2 => by omega
  | n + 1, h, q, h1, h2 => by
    unfold allOk at h
    cases hb : pagesOk (n + 1) (n + 1) with
    | false => rw [hb] at h; exact absurd h (by simp)
    | true =>
      rw [hb] at h
      by_cases e : q = n + 1
      · subst e; exact hb
      · exact every_ok n h q h1 (by omega)

theorem many (q g : Nat) (h1 : 1 ≤ q) (h2 : q ≤ 32) (h3 : g < q) : 30 ≤ cnt q g 1900 := pages_ok q (every_ok 32 all_ok q h1 h2) g h3

end Go.Proofs.Ytfnahgmajdjepaa.Many
