/- Plain: of two hundred keys one behind the other none of eight to thirty-one pages has more than half. No condition. -/
namespace Go.Proofs.Ytfnahgmajdjepaa.ApartMath

/-- The greatest of these that is not above h (0: none). -/
def best (h : Nat) : List Nat → Nat
  | [] => 0
  | b :: bs => if b ≤ h then max b (best h bs) else best h bs

theorem best_le (h : Nat) : ∀ bs, best h bs ≤ h
  | [] => Nat.zero_le _
  | b :: bs => by
    have := best_le h bs
    unfold best; split <;> omega

theorem le_best (h b : Nat) (hb : b ≤ h) : ∀ bs, b ∈ bs → b ≤ best h bs
  | [], hm => by simp at hm
  | c :: bs, hm => by
    unfold best
    rcases List.mem_cons.1 hm with e | e
    · subst e; rw [if_pos hb]; omega
    · have := le_best h b hb bs e
      split <;> omega

theorem best_mem (h : Nat) : ∀ bs, best h bs ∈ 0 :: bs
  | [] => by simp [best]
  | b :: bs => by
    have := best_mem h bs
    unfold best
    split
    · rcases Nat.le_total b (best h bs) with e | e
      · rw [Nat.max_eq_right e]; simp at this ⊢; rcases this with h | h <;> simp [h]
      · rw [Nat.max_eq_left e]; simp
    · simp at this ⊢; rcases this with h | h <;> simp [h]

/-- Where a sum with e passes the next multiple of 65536. -/
def brk (e : Nat) : Nat := (65536 - e % 65536) % 65536

theorem same_div (h m e : Nat) (hh : h < 65536) (hm : m ≤ h) (hb : brk e ≤ m ∨ h < brk e) : (h + e) / 65536 = (m + e) / 65536 := by
  unfold brk at hb
  omega

def steps : List Nat := [0, 1, 2, 3, 4, 5, 6, 7, 8, 9]
def los : List Nat := steps.map fun j => brk (j * 31153)
/-- What is added to the upper half, j keys on. -/
def off (lo j : Nat) : Nat := j * 40503 + (lo + j * 31153) / 65536
def his (lo : Nat) : List Nat := steps.map fun j => brk (off lo j)

/-- The upper half, j keys on. -/
def hof (lo hi j : Nat) : Nat := (hi + off lo j) % 65536

theorem hof_of (x j : Nat) : (x + j * 2654435761) % 4294967296 / 65536 = hof (x % 65536) (x / 65536) j := by
  unfold hof off
  omega

theorem off_same (lo j : Nat) (hlo : lo < 65536) (hj : j ∈ steps) : off lo j = off (best lo los) j := by
  unfold off
  rw [same_div lo (best lo los) (j * 31153) hlo (best_le _ _)]
  rcases Nat.lt_or_ge lo (brk (j * 31153)) with h | h
  · exact Or.inr h
  · exact Or.inl (le_best lo _ h los (List.mem_map_of_mem hj))

theorem hof_same (lo hi j : Nat) (hlo : lo < 65536) (hhi : hi < 65536) (hj : j ∈ steps) :
    hof lo hi j = hof (best lo los) (best hi (his (best lo los))) j + (hi - best hi (his (best lo los))) := by
  unfold hof
  rw [off_same lo j hlo hj]
  have h1 := best_le hi (his (best lo los))
  have h2 : (hi + off (best lo los) j) / 65536 = (best hi (his (best lo los)) + off (best lo los) j) / 65536 := by
    apply same_div _ _ _ hhi h1
    rcases Nat.lt_or_ge hi (brk (off (best lo los) j)) with h | h
    · exact Or.inr h
    · exact Or.inl (le_best hi _ h _ (List.mem_map_of_mem hj))
  omega

/-- How many of the ten keys are on the page with this remainder. -/
def ten (lo hi q g : Nat) : List Nat → Nat
  | [] => 0
  | j :: js => bif Nat.beq (hof lo hi j % q) g then Nat.succ (ten lo hi q g js) else ten lo hi q g js

def gOk (lo hi q : Nat) : Nat → Bool
  | 0 => true
  | g + 1 => bif Nat.ble (ten lo hi q g steps) 5 then gOk lo hi q g else false
def qOk (lo hi : Nat) : Nat → Bool
  | 0 => true
  | n + 1 => bif gOk lo hi (n + 8) (n + 8) then qOk lo hi n else false
def hiOk (lo : Nat) : List Nat → Bool
  | [] => true
  | h :: hs => bif qOk lo h 24 then hiOk lo hs else false
def loOk : List Nat → Bool
  | [] => true
  | l :: ls => bif hiOk l (0 :: his l) then loOk ls else false

theorem lo_ok : loOk (0 :: los) = true := by decide +kernel

theorem g_ok {lo hi q : Nat} : ∀ n, gOk lo hi q n = true → ∀ g, g < n → ten lo hi q g steps ≤ 5
  | 0, _, _, hg => absurd hg (Nat.not_lt_zero _)
  | n + 1, h, g, hg => by
    unfold gOk at h
    cases hb : Nat.ble (ten lo hi q n steps) 5 with
    | false => rw [hb] at h; exact absurd h (by simp)
    | true =>
      rw [hb] at h
      rcases Nat.lt_succ_iff_lt_or_eq.1 hg with e | e
      · exact g_ok n h g e
      · subst e; exact Nat.le_of_ble_eq_true hb
theorem q_ok {lo hi : Nat} : ∀ n, qOk lo hi n = true → ∀ q, 8 ≤ q → q < n + 8 → gOk lo hi q q = true
  | 0, _, _, h1, h2 => by omega
  | n + 1, h, q, h1, h2 => by
    unfold qOk at h
    cases hb : gOk lo hi (n + 8) (n + 8) with
    | false => rw [hb] at h; exact absurd h (by simp)
    | true =>
      rw [hb] at h
      by_cases e : q = n + 8
      · subst e; exact hb
      · exact q_ok n h q h1 (by omega)
theorem hi_ok {lo : Nat} : ∀ hs, hiOk lo hs = true → ∀ h, h ∈ hs → qOk lo h 24 = true
  | [], _, _, h => by simp at h
  | c :: hs, h, x, hx => by
    unfold hiOk at h
    cases hb : qOk lo c 24 with
    | false => rw [hb] at h; exact absurd h (by simp)
    | true =>
      rw [hb] at h
      rcases List.mem_cons.1 hx with e | e
      · subst e; exact hb
      · exact hi_ok hs h x e
theorem los_ok : ∀ ls, loOk ls = true → ∀ l, l ∈ ls → hiOk l (0 :: his l) = true
  | [], _, _, h => by simp at h
  | c :: ls, h, x, hx => by
    unfold loOk at h
    cases hb : hiOk c (0 :: his c) with
    | false => rw [hb] at h; exact absurd h (by simp)
    | true =>
      rw [hb] at h
      rcases List.mem_cons.1 hx with e | e
      · subst e; exact hb
      · exact los_ok ls h x e

/-- The same at one of the patterns. -/
theorem pattern (lo hi q g : Nat) (h1 : 8 ≤ q) (h2 : q ≤ 31) (h3 : g < q) :
    ten (best lo los) (best hi (his (best lo los))) q g steps ≤ 5 :=
  g_ok q (q_ok 24 (hi_ok _ (los_ok _ lo_ok _ (best_mem lo los)) _ (best_mem hi (his (best lo los)))) q h1 (by omega)) g h3

theorem turn (y d q g : Nat) (hq : 0 < q) (hg : g < q) : ((y + d) % q = g) ↔ y % q = (g + (q - d % q)) % q := by
  have hd := Nat.mod_lt d hq
  have e1 : (y + d) % q = (y % q + d % q) % q := Nat.add_mod _ _ _
  have hy := Nat.mod_lt y hq
  rw [e1]
  generalize y % q = a at *
  generalize d % q = b at *
  constructor
  · intro h
    rcases Nat.lt_or_ge (a + b) q with h1 | h1
    · rw [Nat.mod_eq_of_lt h1] at h
      rw [show g + (q - b) = a + q from by omega, Nat.add_mod_right, Nat.mod_eq_of_lt hy]
    · rw [Nat.mod_eq_sub_mod h1, Nat.mod_eq_of_lt (by omega)] at h
      rw [show g + (q - b) = a from by omega, Nat.mod_eq_of_lt hy]
  · intro h
    rcases Nat.lt_or_ge (g + (q - b)) q with h1 | h1
    · rw [Nat.mod_eq_of_lt h1] at h
      rw [show a + b = g + q from by omega, Nat.add_mod_right, Nat.mod_eq_of_lt hg]
    · rw [Nat.mod_eq_sub_mod h1, Nat.mod_eq_of_lt (by omega)] at h
      rw [show a + b = g from by omega, Nat.mod_eq_of_lt hg]

theorem ten_turn (lo hi q g : Nat) (hlo : lo < 65536) (hhi : hi < 65536) (hq : 0 < q) (hg : g < q) : ∀ js, (∀ j, j ∈ js → j ∈ steps) →
    ten lo hi q g js = ten (best lo los) (best hi (his (best lo los))) q ((g + (q - (hi - best hi (his (best lo los))) % q)) % q) js
  | [], _ => rfl
  | j :: js, h => by
    have ih := ten_turn lo hi q g hlo hhi hq hg js (fun j hj => h j (List.mem_cons_of_mem _ hj))
    have e := hof_same lo hi j hlo hhi (h j (List.mem_cons_self ..))
    have t := turn (hof (best lo los) (best hi (his (best lo los))) j) (hi - best hi (his (best lo los))) q g hq hg
    rw [← e] at t
    unfold ten
    rw [ih]
    have : Nat.beq (hof lo hi j % q) g = Nat.beq (hof (best lo los) (best hi (his (best lo los))) j % q) ((g + (q - (hi - best hi (his (best lo los))) % q)) % q) := by
      rw [Bool.eq_iff_iff, Nat.beq_eq, Nat.beq_eq]; exact t
    rw [this]

/-- Of ten keys one behind the other at most five are on one page. -/
theorem ten_le (lo hi q g : Nat) (hlo : lo < 65536) (hhi : hi < 65536) (h1 : 8 ≤ q) (h2 : q ≤ 31) (h3 : g < q) : ten lo hi q g steps ≤ 5 := by
  rw [ten_turn lo hi q g hlo hhi (by omega) h3 steps (fun _ h => h)]
  exact pattern lo hi q _ h1 h2 (Nat.mod_lt _ (by omega))

/-- How many of n keys, from k on, are on the page with this remainder. -/
def cw (q g k : Nat) : Nat → Nat
  | 0 => 0
  | n + 1 => cw q g k n + if (k + n) * 2654435761 % 4294967296 / 65536 % q = g then 1 else 0

theorem cw_add (q g k a : Nat) : ∀ b, cw q g k (a + b) = cw q g k a + cw q g (k + a) b
  | 0 => rfl
  | b + 1 => by
    have := cw_add q g k a b
    rw [← Nat.add_assoc]
    simp only [cw]
    rw [this, Nat.add_assoc k a b, Nat.add_assoc]

theorem at_key (k j : Nat) : (k + j) * 2654435761 % 4294967296 / 65536 = hof (k * 2654435761 % 4294967296 % 65536) (k * 2654435761 % 4294967296 / 65536) j := by
  rw [← hof_of, Nat.add_mul]
  omega

theorem cw_ten (q g k : Nat) (h1 : 8 ≤ q) (h2 : q ≤ 31) (h3 : g < q) : cw q g k 10 ≤ 5 := by
  have := ten_le (k * 2654435761 % 4294967296 % 65536) (k * 2654435761 % 4294967296 / 65536) q g (by omega) (by omega) h1 h2 h3
  have e : ∀ j, (bif Nat.beq (hof (k * 2654435761 % 4294967296 % 65536) (k * 2654435761 % 4294967296 / 65536) j % q) g then (1 : Nat) else 0) = if (k + j) * 2654435761 % 4294967296 / 65536 % q = g then 1 else 0 := by
    intro j
    rw [at_key]
    by_cases hh : hof (k * 2654435761 % 4294967296 % 65536) (k * 2654435761 % 4294967296 / 65536) j % q = g
    · rw [if_pos hh, (Nat.beq_eq).mpr hh]; rfl
    · rw [if_neg hh]
      cases hx : Nat.beq (hof (k * 2654435761 % 4294967296 % 65536) (k * 2654435761 % 4294967296 / 65536) j % q) g with
      | false => rfl
      | true => exact absurd ((Nat.beq_eq).mp hx) hh
  have s : ∀ (j : Nat) (js : List Nat), ten (k * 2654435761 % 4294967296 % 65536) (k * 2654435761 % 4294967296 / 65536) q g (j :: js) = (if (k + j) * 2654435761 % 4294967296 / 65536 % q = g then 1 else 0) + ten (k * 2654435761 % 4294967296 % 65536) (k * 2654435761 % 4294967296 / 65536) q g js := by
    intro j js
    rw [← e j]
    conv => lhs; unfold ten
    cases Nat.beq (hof (k * 2654435761 % 4294967296 % 65536) (k * 2654435761 % 4294967296 / 65536) j % q) g <;> simp <;> omega
  unfold steps at this
  simp only [s] at this
  simp only [cw]
  have e0 : ten (k * 2654435761 % 4294967296 % 65536) (k * 2654435761 % 4294967296 / 65536) q g [] = 0 := rfl
  rw [e0] at this
  omega

theorem cw_all (q g : Nat) (h1 : 8 ≤ q) (h2 : q ≤ 31) (h3 : g < q) : ∀ n k, cw q g k (10 * n) ≤ 5 * n
  | 0, _ => Nat.le_refl _
  | n + 1, k => by
    have a := cw_all q g h1 h2 h3 n k
    have b := cw_ten q g (k + 10 * n) h1 h2 h3
    rw [Nat.mul_succ, cw_add]
    omega

theorem apart (q g k : Nat) (h1 : 8 ≤ q) (h2 : q ≤ 31) (h3 : g < q) : cw q g k 200 ≤ 100 := cw_all q g h1 h2 h3 20 k

end Go.Proofs.Ytfnahgmajdjepaa.ApartMath
