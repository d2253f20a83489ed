/- The walk of SpaceSums: it answers true. No condition but that api's errors are what their text says. -/
import Derived.Test.YtfnahgmajdjepaaDoorFirst
import Derived.Test.YtfnahgmajdjepaaDoorOpen
import Derived.IntWalk
namespace Go.Proofs.YtfnahgmajdjepaaDoor.WalkSums
open Go.RowKit Go.Proofs.YtfnahgmajdjepaaDoorW.PrintWords Go.Proofs.YtfnahgmajdjepaaDoorW.PrintLast Go.Proofs.YtfnahgmajdjepaaDoorW.PrintMore
open Go.Proofs.YtfnahgmajdjepaaDoor.See Go.Proofs.YtfnahgmajdjepaaDoor.Space Go.Proofs.YtfnahgmajdjepaaDoor.First
set_option linter.unusedVariables false
set_option linter.unusedSimpArgs false

theorem SP.as {w : World} {b : Nat} {f k : Int} (h : SP w b f k) {f' k' : Int} (hf : f = f') (hk : k = k') : SP w b f' k' := by subst hf; subst hk; exact h

/-- A slice of pairs in memory. -/
def Pairs (w : World) (A : Option Addr) (len : Nat) (x : Nat → Nat → Int) : Prop :=
  ∀ i, i < len → ∃ ad, A = some ad ∧ w.cell? (ad.add (i * 2)) = some (.int .i64 (x i 0)) ∧ w.cell? ⟨(ad.add (i * 2)).block, (ad.add (i * 2)).off + 1, none⟩ = some (.int .i64 (x i 1))

theorem Pairs.below {w w1 : World} {A : Option Addr} {len : Nat} {x : Nat → Nat → Int} (h : Pairs w A len x) (hb : Below w.heap.size w w1) : Pairs w1 A len x := by
  intro i hi
  obtain ⟨ad, e, h0, h1⟩ := h i hi
  exact ⟨ad, e, (hb.cell (World.block_lt_of_cell? _ _ h0)).trans h0, (hb.cell (World.block_lt_of_cell? _ _ h1)).trans h1⟩

set_option maxHeartbeats 2000000 in
set_option maxRecDepth 100000 in
theorem sums_calls (a0 : Int) (A : Option Addr) (len cap : Nat) (x : Nat → Nat → Int) (hlen : len ≤ maxLen) (a : Nat → Addr) (w : World) (hx : Pairs w A len x) (hs : Sents w a) :
    Calls Tryd.prog 4 #[.int .i64 a0, .slice A len cap] w fun e w' => e = .returned (.bool true) ∧ Below w.heap.size w w' := by
  unfold maxLen at hlen
  have HS := Aside0.mk hs
  have HX := Aside0.mk hx
  obtain ⟨room, hr⟩ : ∃ r, a0 % 1000 = r := ⟨_, rfl⟩
  have r0 : 0 ≤ room := by omega
  have r1 : room < 1000 := by omega
  have HR := Aside0.mk hr
  have HCR := Aside0.mk (show clampR room = room by unfold clampR; rw [if_neg (by omega), if_neg (by omega)])
  clear hs hr hx
  by_cases h60 : (60 : Int) < (len : Int)
  · go_enter Tryd.func4, Tryd.ntmps4
    go_wp2_with fail
    refine (first_calls a _ HS.out).mono ?_
    rintro e w1 ⟨rfl, hb⟩
    go_wp2_with fail
    go_ret
    exact ⟨rfl, hb⟩
  · go_enter Tryd.func4, Tryd.ntmps4
    go_wp2_with fail
    refine (first_calls a _ HS.out).mono ?_
    rintro e w1 ⟨rfl, hb⟩
    have HB := Aside0.mk hb
    clear hb
    go_wp2_with fail
    refine (num_at _ _ _ (by omega) (by omega) HR.out _).mono ?_
    rintro e w' ⟨rfl, rfl⟩
    go_wp2_with fail
    refine (new_calls room _).mono ?_
    rintro e w2 ⟨rfl, hp, hb⟩
    rw [HCR.out] at hp
    have HP := Aside0.mk (SP.as hp (show room = room - 0 - 0 by omega) rfl)
    have hle : w.heap.size ≤ w1.heap.size := HB.out.size
    replace HB := Aside0.mk (below_step HB.out hb)
    clear hb hp
    go_wp2_with fail
    go_loopg [7, 8, 9] (len + 1) (fun kq v7 v8 v9 w' => ∃ (u k : Int) (i : Nat), v7 = .int .i64 u ∧ v8 = .int .i64 k ∧ v9 = .int .i64 (i : Int) ∧ 0 ≤ u ∧ 0 ≤ k ∧ u + k ≤ room ∧ Aside0 (kq + i = len + 1 ∧ i ≤ len) ∧ Aside0 (SP w' w1.heap.size (room - u - k) k) ∧ Aside0 (Below w.heap.size w w'))
    case atStart => exact ⟨0, 0, 0, rfl, rfl, rfl, by omega, by omega, by omega, ⟨by omega⟩, HP, HB⟩
    case round =>
      clear HB HP
      obtain ⟨u, k, i, rfl, rfl, rfl, u0, k0, uk, HI, HP, HB⟩ := hrel
      by_cases hi : (i : Int) < (len : Int)
      · have hi0 : (0 : Int) ≤ (i : Int) := by omega
        obtain ⟨ad, e, hc0, hc1⟩ := (HX.out.below HB.out) i (by omega)
        cases e
        obtain ⟨p, hp⟩ : ∃ p, x i 0 = p := ⟨_, rfl⟩
        obtain ⟨q, hq⟩ : ∃ p, x i 1 = p := ⟨_, rfl⟩
        have hcells : ∀ W, Below w.heap.size w W → W.cell? (ad.add (i * 2)) = some (.int .i64 p) ∧ W.cell? ⟨(ad.add (i * 2)).block, (ad.add (i * 2)).off + 1, none⟩ = some (.int .i64 q) := by
          intro W hW
          obtain ⟨ad', e, h0, h1⟩ := (HX.out.below hW) i (by omega)
          cases e
          rw [hp] at h0
          rw [hq] at h1
          exact ⟨h0, h1⟩
        have HC := Aside0.mk hcells
        rw [hp] at hc0
        rw [hq] at hc1
        clear hp hq hcells
        have e0 : 0 ≤ p % 40 := by omega
        have e1 : p % 40 < 40 := by omega
        have e2 : 0 ≤ q % 40 := by omega
        have e3 : q % 40 < 40 := by omega
        go_wp2_with fail
        refine (num_calls p 40 (by omega) (by omega) _).mono ?_
        rintro e w' ⟨rfl, rfl⟩
        go_wp2_with fail
        refine (num_calls q 40 (by omega) (by omega) _).mono ?_
        rintro e w' ⟨rfl, rfl⟩
        generalize p % 40 = pp at *
        generalize q % 40 = qq at *
        clear hc0 hc1
        by_cases hfit : u + k + pp + qq ≤ room
        · go_wp2_with fail
          refine (ask_ok _ _ _ _ _ _ HP.out (by omega) (by omega) (by omega) (cntB_mk (by omega) (by omega)) (cntB_mk (by omega) (by omega)) (by omega) w.heap.size hle).mono ?_
          rintro e w3 ⟨rfl, hp, hb, _⟩
          replace HP := Aside0.mk (SP.as hp (show room - u - k - (pp + qq) = room - (u + pp) - (k + qq) by omega) rfl)
          replace HB := Aside0.mk (HB.out.trans hb)
          clear hb hp
          obtain ⟨hc0, hc1⟩ := HC.out _ HB.out
          obtain ⟨n, hn⟩ : ∃ n, (bits BinOp.xor IntKind.i64 p q) % ((k + qq) + 1) = n := ⟨_, rfl⟩
          have n0 : 0 ≤ n := by rw [← hn]; exact Int.emod_nonneg _ (by omega)
          have n1 : n < (k + qq) + 1 := by rw [← hn]; exact Int.emod_lt_of_pos _ (by omega)
          have HN := Aside0.mk hn
          clear hn
          have HW := Aside0.mk (IntWalk.i64_in ((k + qq) + 1) (by omega))
          have hw1 := HW.out
          go_wp2_with fail
          go_region_held3 (fun w' => w'.cell? (ad.add (i * 2)) = some (.int .i64 p) ∧ w'.cell? ⟨(ad.add (i * 2)).block, (ad.add (i * 2)).off + 1, none⟩ = some (.int .i64 q)) (go_keep)
            (first | (go_at_call 11; refine (num_at _ _ n (by omega) (by omega) HN.out _).mono ?_; rintro e w' ⟨rfl, rfl⟩))
          clear hw1
          replace HP := Aside0.mk HP.out.drew
          replace HB := Aside0.mk HB.out.drew
          go_wp2_with fail
          rotate_left
          · refine (let_ok _ _ _ _ _ HP.out (by omega) (by omega) (by omega) (by omega) (by omega) w.heap.size hle).mono ?_
            rintro e w4 ⟨rfl, hp, hb, _⟩
            replace HP := Aside0.mk (SP.as hp (show room - (u + pp) - (k + qq) + n = room - (u + pp) - ((k + qq) - n) by omega) rfl)
            replace HB := Aside0.mk (HB.out.trans hb)
            clear hb hp
            go_wp2_with fail
            refine (spend_no _ _ _ _ _ HP.out (Or.inr (by omega))).mono ?_
            rintro e w' ⟨rfl, rfl⟩
            go_wp2_with fail
            refine (let_no _ _ _ _ _ HP.out (Or.inr (by omega))).mono ?_
            rintro e w' ⟨rfl, rfl⟩
            go_wp2_with fail
            refine (free_calls _ _ _ _ HP.out).mono ?_
            rintro e w' ⟨rfl, rfl⟩
            go_wp2_with fail
            refine (kept_calls _ _ _ _ HP.out).mono ?_
            rintro e w' ⟨rfl, rfl⟩
            go_wp2_with fail
            go_roundg (gk - 1)
            case measure => have := HI.out; omega
            case rel => exact ⟨(u + pp), (k + qq) - n, i + 1, rfl, rfl, by simp, by omega, by omega, by omega, ⟨by have := HI.out; omega⟩, HP, HB⟩
          · refine (spend_ok _ _ _ _ _ HP.out (by omega) (by omega) (by omega) w.heap.size hle).mono ?_
            rintro e w4 ⟨rfl, hp, hb, _⟩
            replace HP := Aside0.mk (SP.as hp (show room - (u + pp) - (k + qq) = room - ((u + pp) + n) - ((k + qq) - n) by omega) rfl)
            replace HB := Aside0.mk (HB.out.trans hb)
            clear hb hp
            go_wp2_with fail
            refine (spend_no _ _ _ _ _ HP.out (Or.inr (by omega))).mono ?_
            rintro e w' ⟨rfl, rfl⟩
            go_wp2_with fail
            refine (let_no _ _ _ _ _ HP.out (Or.inr (by omega))).mono ?_
            rintro e w' ⟨rfl, rfl⟩
            go_wp2_with fail
            refine (free_calls _ _ _ _ HP.out).mono ?_
            rintro e w' ⟨rfl, rfl⟩
            go_wp2_with fail
            refine (kept_calls _ _ _ _ HP.out).mono ?_
            rintro e w' ⟨rfl, rfl⟩
            go_wp2_with fail
            go_roundg (gk - 1)
            case measure => have := HI.out; omega
            case rel => exact ⟨(u + pp) + n, (k + qq) - n, i + 1, rfl, rfl, by simp, by omega, by omega, by omega, ⟨by have := HI.out; omega⟩, HP, HB⟩
        · have hfit2 : room < u + k + pp + qq := by omega
          go_wp2_with fail
          refine (ask_full a _ _ _ _ _ _ HP.out (HS.out.below HB.out) (cntB_mk (by omega) (by omega)) (cntB_mk (by omega) (by omega)) (by omega)).mono ?_
          rintro e w' ⟨rfl, rfl⟩
          obtain ⟨hc0, hc1⟩ := HC.out _ HB.out
          obtain ⟨n, hn⟩ : ∃ n, (bits BinOp.xor IntKind.i64 p q) % (k + 1) = n := ⟨_, rfl⟩
          have n0 : 0 ≤ n := by rw [← hn]; exact Int.emod_nonneg _ (by omega)
          have n1 : n < k + 1 := by rw [← hn]; exact Int.emod_lt_of_pos _ (by omega)
          have HN := Aside0.mk hn
          clear hn
          have HW := Aside0.mk (IntWalk.i64_in (k + 1) (by omega))
          have hw1 := HW.out
          go_wp2_with fail
          go_region_held3 (fun w' => w'.cell? (ad.add (i * 2)) = some (.int .i64 p) ∧ w'.cell? ⟨(ad.add (i * 2)).block, (ad.add (i * 2)).off + 1, none⟩ = some (.int .i64 q)) (go_keep)
            (first | (go_at_call 11; refine (num_at _ _ n (by omega) (by omega) HN.out _).mono ?_; rintro e w' ⟨rfl, rfl⟩))
          clear hw1
          replace HP := Aside0.mk HP.out.drew
          replace HB := Aside0.mk HB.out.drew
          go_wp2_with fail
          rotate_left
          · refine (let_ok _ _ _ _ _ HP.out (by omega) (by omega) (by omega) (by omega) (by omega) w.heap.size hle).mono ?_
            rintro e w4 ⟨rfl, hp, hb, _⟩
            replace HP := Aside0.mk (SP.as hp (show room - u - k + n = room - u - (k - n) by omega) rfl)
            replace HB := Aside0.mk (HB.out.trans hb)
            clear hb hp
            go_wp2_with fail
            refine (spend_no _ _ _ _ _ HP.out (Or.inr (by omega))).mono ?_
            rintro e w' ⟨rfl, rfl⟩
            go_wp2_with fail
            refine (let_no _ _ _ _ _ HP.out (Or.inr (by omega))).mono ?_
            rintro e w' ⟨rfl, rfl⟩
            go_wp2_with fail
            refine (free_calls _ _ _ _ HP.out).mono ?_
            rintro e w' ⟨rfl, rfl⟩
            go_wp2_with fail
            refine (kept_calls _ _ _ _ HP.out).mono ?_
            rintro e w' ⟨rfl, rfl⟩
            go_wp2_with fail
            go_roundg (gk - 1)
            case measure => have := HI.out; omega
            case rel => exact ⟨u, k - n, i + 1, rfl, rfl, by simp, by omega, by omega, by omega, ⟨by have := HI.out; omega⟩, HP, HB⟩
          · refine (spend_ok _ _ _ _ _ HP.out (by omega) (by omega) (by omega) w.heap.size hle).mono ?_
            rintro e w4 ⟨rfl, hp, hb, _⟩
            replace HP := Aside0.mk (SP.as hp (show room - u - k = room - (u + n) - (k - n) by omega) rfl)
            replace HB := Aside0.mk (HB.out.trans hb)
            clear hb hp
            go_wp2_with fail
            refine (spend_no _ _ _ _ _ HP.out (Or.inr (by omega))).mono ?_
            rintro e w' ⟨rfl, rfl⟩
            go_wp2_with fail
            refine (let_no _ _ _ _ _ HP.out (Or.inr (by omega))).mono ?_
            rintro e w' ⟨rfl, rfl⟩
            go_wp2_with fail
            refine (free_calls _ _ _ _ HP.out).mono ?_
            rintro e w' ⟨rfl, rfl⟩
            go_wp2_with fail
            refine (kept_calls _ _ _ _ HP.out).mono ?_
            rintro e w' ⟨rfl, rfl⟩
            go_wp2_with fail
            go_roundg (gk - 1)
            case measure => have := HI.out; omega
            case rel => exact ⟨u + n, k - n, i + 1, rfl, rfl, by simp, by omega, by omega, by omega, ⟨by have := HI.out; omega⟩, HP, HB⟩
      · go_wp2_with fail
        go_ret
        exact ⟨by simp, HB.out⟩

theorem sums_nums (a0 : Int) (A : Option Addr) (len cap : Nat) (x : Nat → Nat → Int) (hlen : len ≤ maxLen) (a : Nat → Addr) (w : World) (hs : Sents w a) (hx : Open.Nums w A len 2 x) :
    Calls Tryd.prog 4 #[.int .i64 a0, .slice A len cap] w fun e w1 => e = .returned (.bool true) ∧ Below w.heap.size w w1 := by
  refine sums_calls a0 A len cap x hlen a w (fun i hi => ?_) hs
  obtain ⟨ad, e, h⟩ := hx i hi
  exact ⟨ad, e, by have := h 0 (by omega); simpa [Addr.add] using this, by have := h 1 (by omega); simpa [Addr.add] using this⟩

end Go.Proofs.YtfnahgmajdjepaaDoor.WalkSums
