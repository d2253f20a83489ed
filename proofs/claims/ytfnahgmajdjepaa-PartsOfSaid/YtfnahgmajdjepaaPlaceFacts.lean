/- Plain facts on the printed functions of package place, for the walks of its statements. No condition. -/
import Derived.Test.YtfnahgmajdjepaaPPlaceSaysx1
namespace Go.Proofs.Ytfnahgmajdjepaa.Facts
open Go.RowKit Go.Proofs.Ytfnahgmajdjepaa.PPlaceSays Go.Proofs.YtfnahgmajdjepaaW.PrintWords Go.Proofs.YtfnahgmajdjepaaW.PrintLast Go.Proofs.YtfnahgmajdjepaaW.PrintMore

theorem w64 {a : Int} (h0 : -4611686018427387904 ≤ a) (h1 : a ≤ 4611686018427387904) : wrap64 a = a := by
  unfold wrap64
  omega

theorem num_of (a b : Int) (hb : 0 < b) (hb2 : b ≤ 4294967296) : ∃ n, phoenixworld_Number.f a b = some n ∧ 0 ≤ n ∧ n < b := by
  unfold phoenixworld_Number.f
  rw [if_neg (by omega)]
  have h1 := Int.tmod_lt_of_pos a hb
  have h2 := Int.lt_tmod_of_pos a hb
  by_cases h : Int.tmod a b < 0
  · rw [if_pos h]
    exact ⟨_, rfl, by rw [w64 (by omega) (by omega)]; omega, by rw [w64 (by omega) (by omega)]; omega⟩
  · rw [if_neg h]
    exact ⟨_, rfl, by omega, by omega⟩

theorem first_true : phoenixlaw9_first.f = some true := by decide +kernel

/-- The upper half of a key's product. -/
def half (a : Int) : Int := (a * 2654435761) % 4294967296 / 65536

theorem half_bd (a : Int) : 0 ≤ half a ∧ half a < 65536 := by unfold half; omega

theorem half_more (a : Int) : half (a + 4294967296) = half a := by unfold half; omega
theorem half_less (a : Int) : half (a - 4294967296) = half a := by unfold half; omega

theorem half_prog (a : Int) : (IntKind.u64.wrap ((IntKind.u64.wrap a) * 2654435761)) % 4294967296 / 65536 = half a := by
  unfold half
  rw [IntKind.wrap_u64, IntKind.wrap_u64]
  omega

theorem half_ref (a : Int) : (a % 4294967296 * 2654435761) % 4294967296 / 65536 = half a := by
  unfold half
  omega

theorem emod_le' {a m : Int} (ha : 0 ≤ a) (hm : 0 ≤ m) : a % m ≤ a := by
  obtain ⟨n, rfl⟩ := Int.eq_ofNat_of_zero_le ha
  obtain ⟨k, rfl⟩ := Int.eq_ofNat_of_zero_le hm
  exact_mod_cast Nat.mod_le n k

theorem mx1 (p : Int) : 1 ≤ mx p 1 := by unfold mx; split <;> omega

theorem page_of (a p : Int) : place_Page.f a p = some (1 + half a % mx p 1) := by
  have := mx1 p
  have h := half_bd a
  unfold place_Page.f
  rw [if_neg (by omega), half_prog, w64]
  · have := Int.emod_nonneg (half a) (b := mx p 1) (by omega)
    omega
  · have := emod_le' (m := mx p 1) h.1 (by omega)
    omega

theorem ref_of (a p : Int) : phoenixref7_Place.f a p = some (1 + half a % mx p 1) := by
  have := mx1 p
  have h := half_bd a
  unfold phoenixref7_Place.f
  rw [if_neg (by omega), half_ref, w64]
  · have := Int.emod_nonneg (half a) (b := mx p 1) (by omega)
    omega
  · have := emod_le' (m := mx p 1) h.1 (by omega)
    omega

theorem log_of (p : Int) (h0 : 0 ≤ p) (h1 : p ≤ 100000) : place_Log.f p = some (p + 1) := by
  unfold place_Log.f; rw [w64 (by omega) (by omega)]
theorem sectors_of (p b : Int) (h0 : 0 ≤ p) (h1 : p ≤ 100000) (h2 : 0 ≤ b) (h3 : b ≤ 100000) : place_Sectors.f p b = some (1 + p + b) := by
  unfold place_Sectors.f; rw [w64 (a := 1 + p) (by omega) (by omega), w64 (by omega) (by omega)]

/-- The two loops over the keys are one. -/
theorem keys_same (page p n : Int) : ∀ (k : Nat), (∀ acc i, place_Keys.l0 k page p n acc i = phoenixref7_Keys.l0 k page p n acc i) ∧ (∀ acc i t, place_Keys.j2 k page p n acc i t = phoenixref7_Keys.j1 k page p n acc i t)
  | 0 => ⟨fun _ _ => by simp [place_Keys.l0, phoenixref7_Keys.l0], fun _ _ _ => by simp [place_Keys.j2, phoenixref7_Keys.j1]⟩
  | k + 1 => by
    obtain ⟨ih0, ih1⟩ := keys_same page p n k
    refine ⟨fun acc i => ?_, fun acc i t => ?_⟩
    · simp only [place_Keys.l0, phoenixref7_Keys.l0, ih1]
    · simp only [place_Keys.j2, phoenixref7_Keys.j1, ih0, page_of, ref_of]

/-- One round over the keys. -/
theorem keys_round (page p n : Int) (k : Nat) (acc : List Int) (i : Int) (h0 : 0 ≤ i) (h1 : i < 1048576) (hn : (acc.length : Int) < n) (ha : acc.length ≤ 2000000) :
    place_Keys.l0 (k + 2) page p n acc i = if 1 + half i % mx p 1 = page then place_Keys.l0 k page p n (acc ++ [i]) (i + 1) else place_Keys.l0 k page p n acc (i + 1) := by
  simp only [place_Keys.l0]
  rw [if_pos h1]
  simp only [place_Keys.j2, page_of, Option.bind_some]
  rw [if_pos (by simpa using hn), w64 (by omega) (by omega)]
  by_cases h : 1 + half i % mx p 1 = page
  · rw [if_pos h, if_pos h, if_pos (by omega)]
  · rw [if_neg h, if_neg h]

theorem keys_full (page p n : Int) (k : Nat) (acc : List Int) (i : Int) (hn : ¬ (acc.length : Int) < n) :
    place_Keys.l0 (k + 2) page p n acc i = some acc := by
  simp only [place_Keys.l0]
  by_cases h : i < 1048576
  · rw [if_pos h]; simp only [place_Keys.j2]; rw [if_neg (by simpa using hn)]
  · rw [if_neg h]; simp [place_Keys.j2]

theorem keys_over (page p n : Int) (k : Nat) (acc : List Int) (i : Int) (hi : ¬ i < 1048576) :
    place_Keys.l0 (k + 2) page p n acc i = some acc := by
  simp only [place_Keys.l0]
  rw [if_neg hi]; simp [place_Keys.j2]

/-- The loop over the keys ends. -/
theorem keys_end (page p n : Int) (d : Nat) : ∀ (k : Nat) (acc : List Int) (i : Int), 0 ≤ i → (acc.length : Int) ≤ i → i ≤ 1048576 → 1048576 - i = d → 2 * d + 2 ≤ k →
    ∃ r, place_Keys.l0 k page p n acc i = some r ∧ (r.length : Int) ≤ 1048576 := by
  induction d with
  | zero =>
    intro k acc i h0 ha h1 hd hk
    obtain ⟨k, rfl⟩ : ∃ m, k = m + 2 := ⟨k - 2, by omega⟩
    exact ⟨acc, keys_over page p n k acc i (by omega), by omega⟩
  | succ d ih =>
    intro k acc i h0 ha h1 hd hk
    obtain ⟨k, rfl⟩ : ∃ m, k = m + 2 := ⟨k - 2, by omega⟩
    by_cases hn : (acc.length : Int) < n
    · rw [keys_round page p n k acc i h0 (by omega) hn (by omega)]
      split
      · exact ih k _ (i + 1) (by omega) (by simp; omega) (by omega) (by omega) (by omega)
      · exact ih k _ (i + 1) (by omega) (by omega) (by omega) (by omega) (by omega)
    · exact ⟨acc, keys_full page p n k acc i hn, by omega⟩

/-- A page that is none has no keys. -/
theorem keys_none (page p n : Int) (hp : page < 1 ∨ mx p 1 < page) (d : Nat) : ∀ (k : Nat) (acc : List Int) (i : Int), 0 ≤ i → (acc.length : Int) ≤ i → i ≤ 1048576 → 1048576 - i = d → 2 * d + 2 ≤ k →
    place_Keys.l0 k page p n acc i = some acc := by
  induction d with
  | zero =>
    intro k acc i h0 ha h1 hd hk
    obtain ⟨k, rfl⟩ : ∃ m, k = m + 2 := ⟨k - 2, by omega⟩
    exact keys_over page p n k acc i (by omega)
  | succ d ih =>
    intro k acc i h0 ha h1 hd hk
    obtain ⟨k, rfl⟩ : ∃ m, k = m + 2 := ⟨k - 2, by omega⟩
    by_cases hn : (acc.length : Int) < n
    · rw [keys_round page p n k acc i h0 (by omega) hn (by omega)]
      have := mx1 p
      have e1 := Int.emod_nonneg (half i) (b := mx p 1) (by omega)
      have e2 := Int.emod_lt_of_pos (half i) (b := mx p 1) (by omega)
      rw [if_neg (by omega)]
      exact ih k _ (i + 1) (by omega) (by omega) (by omega) (by omega) (by omega)
    · exact keys_full page p n k acc i hn

/-- A page's first keys, by the program and by the reference: the same. -/
theorem keys_both (page p n : Int) : ∃ k r, place_Keys.f k page p n = some r ∧ phoenixref7_Keys.f k page p n = some r ∧ (r.length : Int) ≤ 1048576 := by
  by_cases hp : page < 1 ∨ mx p 1 < page
  · refine ⟨2097155, [], ?_, ?_, by simp⟩
    · unfold place_Keys.f
      by_cases h1 : page < 1
      · rw [if_pos h1]; simp [place_Keys.j0]
      · rw [if_neg h1]
        have : decide (page > mx p 1) = true := by simp; omega
        rw [this]; simp [place_Keys.j0]
    · unfold phoenixref7_Keys.f
      rw [← (keys_same page p n _).1]
      exact keys_none page p n hp 1048576 _ [] 0 (by omega) (by simp) (by omega) (by omega) (by omega)
  · obtain ⟨r, hr, hlen⟩ := keys_end page p n 1048576 2097155 [] 0 (by omega) (by simp) (by omega) (by omega) (by omega)
    refine ⟨2097156, r, ?_, ?_, hlen⟩
    · unfold place_Keys.f
      rw [if_neg (by omega)]
      have : decide (page > mx p 1) = false := by simp; omega
      rw [this]
      simp only [place_Keys.j0]
      rw [if_neg (by simp)]
      exact hr
    · unfold phoenixref7_Keys.f
      rw [← (keys_same page p n _).1]
      exact (place_Keys.mono_l _).2.1 _ _ _ _ _ r hr

theorem same_self (l : List Int) (hl : l.length ≤ 4611686018427387904) (d : Nat) : ∀ (k : Nat) (i : Int), 0 ≤ i → i ≤ l.length → (l.length : Int) - i = d → d < k → phoenixref_SameInts.l0 k l l i = some true := by
  induction d with
  | zero =>
    intro k i h0 h1 hd hk
    obtain ⟨k, rfl⟩ : ∃ m, k = m + 1 := ⟨k - 1, by omega⟩
    simp only [phoenixref_SameInts.l0]; rw [if_neg (by omega)]
  | succ d ih =>
    intro k i h0 h1 hd hk
    obtain ⟨k, rfl⟩ : ∃ m, k = m + 1 := ⟨k - 1, by omega⟩
    simp only [phoenixref_SameInts.l0]
    rw [if_pos (by omega), if_pos h0, if_pos (by omega), w64 (by omega) (by omega)]
    exact ih k (i + 1) (by omega) (by omega) (by omega) (by omega)

theorem same_true (l : List Int) (hl : l.length ≤ 4611686018427387904) : phoenixref_SameInts.f (l.length + 1) l l = some true := by
  unfold phoenixref_SameInts.f
  rw [if_pos rfl]
  exact same_self l hl l.length _ 0 (by omega) (by omega) (by omega) (by omega)

end Go.Proofs.Ytfnahgmajdjepaa.Facts
