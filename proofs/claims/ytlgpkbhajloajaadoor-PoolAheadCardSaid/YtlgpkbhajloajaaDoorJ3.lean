/- Joined texts: Rec, RecC, RecB, Fill, BlockB. -/
import Derived.Test.YtlgpkbhajloajaaDoorJ2
import Derived.Test.YtlgpkbhajloajaaDoorWZeros
import Derived.Lib.SlBytesConst
/- The contracts of package rec. No condition but that api's errors are what their text says. -/

namespace Go.Proofs.YtlgpkbhajloajaaDoor.Rec
open Go.RowKit Go.Proofs.YtlgpkbhajloajaaDoorW.PrintWords Go.Proofs.YtlgpkbhajloajaaDoorW.PrintLast Go.Proofs.YtlgpkbhajloajaaDoorW.PrintMore
open Go.Proofs.YtlgpkbhajloajaaDoor.See Go.Proofs.YtlgpkbhajloajaaDoor.Mem Go.Proofs.YtlgpkbhajloajaaDoor.Clone Go.Proofs.YtlgpkbhajloajaaDoor.Cell Go.Proofs.YtlgpkbhajloajaaDoor.Page Go.Proofs.YtlgpkbhajloajaaDoor.PageB Go.Proofs.YtlgpkbhajloajaaDoor.PageR Go.Proofs.YtlgpkbhajloajaaDoor.Disk Go.Proofs.YtlgpkbhajloajaaDoor.RecD
attribute [local go_sem] max2_imax min2_imin max_two min_two
set_option linter.unusedVariables false
set_option linter.unusedSimpArgs false

set_option maxHeartbeats 1000000 in
set_option maxRecDepth 100000 in
theorem in_calls (n lo hi : Int) (b : Bool) (hb : inB n lo hi = b) (w : World) :
    Calls Tryd.prog 61 #[.int .i64 n, .int .i64 lo, .int .i64 hi] w fun e w' => e = .returned (.bool b) ∧ w = w' := by
  subst hb
  by_cases h1 : lo ≤ n
  · have q1 : decide (n ≥ lo) = true := decide_eq_true h1
    have HR := Aside0.mk (show inB n lo hi = decide (n ≤ hi) by unfold inB; rw [decide_eq_true h1]; rfl)
    clear h1
    go_enter Tryd.func61, Tryd.ntmps61
    go_wp2
    go_ret
    exact ⟨by simp [HR.out], rfl⟩
  · have q1 : decide (n ≥ lo) = false := decide_eq_false h1
    have HR := Aside0.mk (show inB n lo hi = false by unfold inB; rw [decide_eq_false h1]; rfl)
    clear h1
    go_enter Tryd.func61, Tryd.ntmps61
    go_wp2
    go_ret
    exact ⟨by simp [HR.out], rfl⟩

/-- A record as a value. -/
abbrev recV (r : RecV) : Value := .agg #[.int .i64 r.kind, .int .i64 r.txn, .int .i64 r.page, .int .i64 r.prev, .int .i64 r.next, .int .i64 r.key, .bool r.had, .bool r.has, .int .i64 r.old, .int .i64 r.new]

set_option maxHeartbeats 2000000 in
set_option maxRecDepth 100000 in
theorem prev_calls (r : RecV) (b : Bool) (hb : prevOk r = b) (w : World) :
    Calls Tryd.prog 62 #[recV r] w fun e w' => e = .returned (.bool b) ∧ Below w.heap.size w w' := by
  obtain ⟨k, t, pg, pv, nx, ky, hd, hs, ol, nw⟩ := r
  have HBB := Aside0.mk hb
  clear hb
  rcases (show k = 1 ∨ k = 7 ∨ k = 10 ∨ k = 9 ∨ (k ≠ 1 ∧ k ≠ 7 ∧ k ≠ 10 ∧ k ≠ 9) by omega) with h | h | h | h | ⟨h1, h2, h3, h4⟩
  · subst h
    go_enter Tryd.func62, Tryd.ntmps62
    go_wp2
    go_ret
    exact ⟨by simp; rw [← HBB.out]; simp [prevOk], below_alloc (Below.refl _ _) _⟩
  · subst h
    go_enter Tryd.func62, Tryd.ntmps62
    go_wp2
    go_ret
    exact ⟨by simp; rw [← HBB.out]; simp [prevOk], below_alloc (Below.refl _ _) _⟩
  · subst h
    go_enter Tryd.func62, Tryd.ntmps62
    go_wp2
    go_ret
    exact ⟨by simp; rw [← HBB.out]; simp [prevOk], below_alloc (Below.refl _ _) _⟩
  · subst h
    go_enter Tryd.func62, Tryd.ntmps62
    go_wp2_with fail
    refine (in_calls _ _ _ _ rfl _).mono ?_
    rintro e w' ⟨rfl, rfl⟩
    go_wp2_with fail
    go_ret
    exact ⟨by simp; rw [← HBB.out]; simp [prevOk], below_alloc (Below.refl _ _) _⟩
  · have q1 : (k == 1) = false := by simp [h1]
    have q2 : (k == 7) = false := by simp [h2]
    have q3 : (k == 10) = false := by simp [h3]
    have q4 : (k == 9) = false := by simp [h4]
    have HH := Aside0.mk (And.intro h1 (And.intro h2 (And.intro h3 h4)))
    clear h1 h2 h3 h4
    go_enter Tryd.func62, Tryd.ntmps62
    go_wp2_with fail
    refine (in_calls _ _ _ _ rfl _).mono ?_
    rintro e w' ⟨rfl, rfl⟩
    go_wp2_with fail
    go_ret
    obtain ⟨h1, h2, h3, h4⟩ := HH.out
    exact ⟨by simp; rw [← HBB.out]; simp [prevOk, h1, h2, h3, h4], below_alloc (Below.refl _ _) _⟩

set_option maxHeartbeats 2000000 in
set_option maxRecDepth 100000 in
theorem next_calls (r : RecV) (b : Bool) (hb : nextOk r = b) (w : World) :
    Calls Tryd.prog 63 #[recV r] w fun e w' => e = .returned (.bool b) ∧ Below w.heap.size w w' := by
  obtain ⟨k, t, pg, pv, nx, ky, hd, hs, ol, nw⟩ := r
  have HBB := Aside0.mk hb
  clear hb
  rcases (show k = 3 ∨ k = 8 ∨ k = 10 ∨ (k ≠ 3 ∧ k ≠ 8 ∧ k ≠ 10) by omega) with h | h | h | ⟨h1, h2, h3⟩
  · subst h
    go_enter Tryd.func63, Tryd.ntmps63
    go_wp2_with fail
    refine (in_calls _ _ _ _ rfl _).mono ?_
    rintro e w' ⟨rfl, rfl⟩
    go_wp2_with fail
    go_ret
    exact ⟨by simp; rw [← HBB.out]; simp [nextOk], below_alloc (Below.refl _ _) _⟩
  · subst h
    go_enter Tryd.func63, Tryd.ntmps63
    go_wp2_with fail
    refine (in_calls _ _ _ _ rfl _).mono ?_
    rintro e w' ⟨rfl, rfl⟩
    go_wp2_with fail
    go_ret
    exact ⟨by simp; rw [← HBB.out]; simp [nextOk], below_alloc (Below.refl _ _) _⟩
  · subst h
    go_enter Tryd.func63, Tryd.ntmps63
    go_wp2_with fail
    refine (in_calls _ _ _ _ rfl _).mono ?_
    rintro e w' ⟨rfl, rfl⟩
    go_wp2_with fail
    go_ret
    exact ⟨by simp; rw [← HBB.out]; simp [nextOk], below_alloc (Below.refl _ _) _⟩
  · have q1 : (k == 3) = false := by simp [h1]
    have q2 : (k == 8) = false := by simp [h2]
    have q3 : (k == 10) = false := by simp [h3]
    have HH := Aside0.mk (And.intro h1 (And.intro h2 h3))
    clear h1 h2 h3
    go_enter Tryd.func63, Tryd.ntmps63
    go_wp2_with fail
    go_ret
    obtain ⟨h1, h2, h3⟩ := HH.out
    exact ⟨by simp; rw [← HBB.out]; simp [nextOk, h1, h2, h3], below_alloc (Below.refl _ _) _⟩

set_option maxHeartbeats 2000000 in
set_option maxRecDepth 100000 in
theorem key_calls (r : RecV) (b : Bool) (hb : rkeyOk r = b) (w : World) :
    Calls Tryd.prog 64 #[recV r] w fun e w' => e = .returned (.bool b) ∧ Below w.heap.size w w' := by
  obtain ⟨k, t, pg, pv, nx, ky, hd, hs, ol, nw⟩ := r
  have HBB := Aside0.mk hb
  clear hb
  rcases (show k = 2 ∨ k = 3 ∨ k = 8 ∨ (k ≠ 2 ∧ k ≠ 3 ∧ k ≠ 8) by omega) with h | h | h | ⟨h1, h2, h3⟩
  · subst h
    go_enter Tryd.func64, Tryd.ntmps64
    go_wp2_with fail
    refine (in_calls _ _ _ _ rfl _).mono ?_
    rintro e w' ⟨rfl, rfl⟩
    go_wp2_with fail
    go_ret
    exact ⟨by simp; rw [← HBB.out]; simp [rkeyOk], below_alloc (Below.refl _ _) _⟩
  · subst h
    go_enter Tryd.func64, Tryd.ntmps64
    go_wp2_with fail
    refine (in_calls _ _ _ _ rfl _).mono ?_
    rintro e w' ⟨rfl, rfl⟩
    go_wp2_with fail
    go_ret
    exact ⟨by simp; rw [← HBB.out]; simp [rkeyOk], below_alloc (Below.refl _ _) _⟩
  · subst h
    go_enter Tryd.func64, Tryd.ntmps64
    go_wp2_with fail
    refine (in_calls _ _ _ _ rfl _).mono ?_
    rintro e w' ⟨rfl, rfl⟩
    go_wp2_with fail
    go_ret
    exact ⟨by simp; rw [← HBB.out]; simp [rkeyOk], below_alloc (Below.refl _ _) _⟩
  · have q1 : (k == 2) = false := by simp [h1]
    have q2 : (k == 3) = false := by simp [h2]
    have q3 : (k == 8) = false := by simp [h3]
    have HH := Aside0.mk (And.intro h1 (And.intro h2 h3))
    clear h1 h2 h3
    go_enter Tryd.func64, Tryd.ntmps64
    go_wp2_with fail
    go_ret
    obtain ⟨h1, h2, h3⟩ := HH.out
    exact ⟨by simp; rw [← HBB.out]; simp [rkeyOk, h1, h2, h3], below_alloc (Below.refl _ _) _⟩

theorem valsOk_bad {r : RecV} (h : (r.has = false ∧ r.new ≠ 0) ∨ (r.had = false ∧ r.old ≠ 0)) : valsOk r = false := by unfold valsOk; rw [if_pos h]

set_option maxHeartbeats 4000000 in
set_option maxRecDepth 100000 in
theorem values_calls (r : RecV) (b : Bool) (hb : valsOk r = b) (w : World) :
    Calls Tryd.prog 65 #[recV r] w fun e w' => e = .returned (.bool b) ∧ Below w.heap.size w w' := by
  obtain ⟨k, t, pg, pv, nx, ky, hd, hs, ol, nw⟩ := r
  have HBB := Aside0.mk hb
  clear hb
  rcases (show (hs = false ∧ nw ≠ 0) ∨ (hs = true ∧ hd = false ∧ ol ≠ 0) ∨ ((hs = false ∧ nw = 0) ∧ hd = false ∧ ol ≠ 0) ∨ ((hs = true ∨ (hs = false ∧ nw = 0)) ∧ (hd = true ∨ (hd = false ∧ ol = 0))) by
    cases hs <;> cases hd <;> simp <;> omega) with ⟨rfl, h⟩ | ⟨rfl, rfl, h⟩ | ⟨⟨rfl, rfl⟩, rfl, h⟩ | ⟨h1, h2⟩
  · have q1 : (nw != 0) = true := by simp [h]
    have HH := Aside0.mk h
    clear h
    go_enter Tryd.func65, Tryd.ntmps65
    go_wp2
    go_ret
    exact ⟨by simp; rw [← HBB.out, valsOk_bad (.inl ⟨rfl, HH.out⟩)], below_alloc (Below.refl _ _) _⟩
  · have q1 : (ol != 0) = true := by simp [h]
    have HH := Aside0.mk h
    clear h
    go_enter Tryd.func65, Tryd.ntmps65
    go_wp2
    go_ret
    exact ⟨by simp; rw [← HBB.out, valsOk_bad (.inr ⟨rfl, HH.out⟩)], below_alloc (Below.refl _ _) _⟩
  · have q1 : (ol != 0) = true := by simp [h]
    have HH := Aside0.mk h
    clear h
    go_enter Tryd.func65, Tryd.ntmps65
    go_wp2
    go_ret
    exact ⟨by simp; rw [← HBB.out, valsOk_bad (.inr ⟨rfl, HH.out⟩)], below_alloc (Below.refl _ _) _⟩
  · rcases h1 with rfl | ⟨rfl, rfl⟩ <;> rcases h2 with rfl | ⟨rfl, rfl⟩
    all_goals
      rcases (show k = 2 ∨ k = 3 ∨ (k ≠ 2 ∧ k ≠ 3) by omega) with h | h | ⟨h1, h2⟩
      · subst h
        go_enter Tryd.func65, Tryd.ntmps65
        go_wp2
        go_ret
        exact ⟨by simp; rw [← HBB.out]; simp [valsOk], below_alloc (Below.refl _ _) _⟩
      · subst h
        first
          | (rcases (show ol < 1 ∨ 1 ≤ ol by omega) with ho | ho
             · have HO := Aside0.mk ho
               have q3 : decide (ol ≥ 1) = false := decide_eq_false (by omega)
               clear ho
               go_enter Tryd.func65, Tryd.ntmps65
               go_wp2_with fail
               go_ret
               exact ⟨by have := HO.out; simp; rw [← HBB.out]; simp [valsOk]; try omega, below_alloc (Below.refl _ _) _⟩
             · have HO := Aside0.mk ho
               have q3 : decide (ol ≥ 1) = true := decide_eq_true (by omega)
               clear ho
               go_enter Tryd.func65, Tryd.ntmps65
               go_wp2_with fail
               go_ret
               exact ⟨by have := HO.out; simp; rw [← HBB.out]; simp [valsOk]; try omega, below_alloc (Below.refl _ _) _⟩)
          | (go_enter Tryd.func65, Tryd.ntmps65
             go_wp2_with fail
             go_ret
             exact ⟨by simp; rw [← HBB.out]; simp [valsOk], below_alloc (Below.refl _ _) _⟩)
      · have q3 : (k == 2) = false := by simp [h1]
        have q4 : (k == 3) = false := by simp [h2]
        have HH := Aside0.mk (And.intro h1 h2)
        clear h1 h2
        go_enter Tryd.func65, Tryd.ntmps65
        go_wp2
        go_ret
        obtain ⟨h1, h2⟩ := HH.out
        exact ⟨by simp; rw [← HBB.out]; simp [valsOk, h1, h2], below_alloc (Below.refl _ _) _⟩

end Go.Proofs.YtlgpkbhajloajaaDoor.Rec
/- The contract of rec.Check. No condition but that api's errors are what their text says. -/
namespace Go.Proofs.YtlgpkbhajloajaaDoor.RecC
open Go.RowKit Go.Proofs.YtlgpkbhajloajaaDoorW.PrintWords Go.Proofs.YtlgpkbhajloajaaDoorW.PrintLast Go.Proofs.YtlgpkbhajloajaaDoorW.PrintMore
open Go.Proofs.YtlgpkbhajloajaaDoor.See Go.Proofs.YtlgpkbhajloajaaDoor.Mem Go.Proofs.YtlgpkbhajloajaaDoor.Clone Go.Proofs.YtlgpkbhajloajaaDoor.Cell Go.Proofs.YtlgpkbhajloajaaDoor.Page Go.Proofs.YtlgpkbhajloajaaDoor.PageB Go.Proofs.YtlgpkbhajloajaaDoor.PageR Go.Proofs.YtlgpkbhajloajaaDoor.Disk Go.Proofs.YtlgpkbhajloajaaDoor.RecD Go.Proofs.YtlgpkbhajloajaaDoor.Rec
attribute [local go_sem] max2_imax min2_imin max_two min_two
set_option linter.unusedVariables false
set_option linter.unusedSimpArgs false

theorem tm_t (r : RecV) (h : inB r.kind 1 6 = true) : txnMax r = 60000 := by
  unfold inB at h; simp at h
  unfold txnMax; rw [if_pos (.inl h)]
theorem tm_f (r : RecV) (h : inB r.kind 1 6 = false) : txnMax r = if (r.kind == 8) = true then 60000 else 0 := by
  have h1 : ¬ (1 ≤ r.kind ∧ r.kind ≤ 6) := by
    unfold inB at h; simp at h; omega
  unfold txnMax
  by_cases h8 : r.kind = 8
  · simp [h8]
  · rw [if_neg (by
      rintro (h | h)
      · exact h1 h
      · exact h8 h)]
    simp [h8]
theorem pm_t (r : RecV) (h : r.kind = 2 ∨ r.kind = 3 ∨ r.kind = 9) : pageMax r = 32 := by unfold pageMax; rw [if_pos h]
theorem pm_f (r : RecV) (h1 : r.kind ≠ 2) (h2 : r.kind ≠ 3) (h3 : r.kind ≠ 9) : pageMax r = 0 := by
  unfold pageMax; rw [if_neg (by
    rintro (h | h | h)
    · exact h1 h
    · exact h2 h
    · exact h3 h)]

theorem recOk_of {r : RecV} {b1 b2 b3 b4 b5 b6 b7 : Bool} (h1 : inB r.kind 1 10 = b1) (h2 : inB r.txn (imin (txnMax r) 1) (txnMax r) = b2) (h3 : inB r.page (imin (pageMax r) 1) (pageMax r) = b3) (h4 : prevOk r = b4) (h5 : nextOk r = b5) (h6 : rkeyOk r = b6) (h7 : valsOk r = b7) :
    recOk r = (b1 && b2 && b3 && b4 && b5 && b6 && b7) := by
  unfold recOk
  rw [← imin_eq, ← imin_eq, h1, h2, h3, h4, h5, h6, h7]

/-- The record's block. -/
theorem blk_rec {w w' : World} {c : Array Value} (h : w'.heap[w.heap.size]? = some (.cells c 53 (0, 0))) (i : Nat) (u : Value) (hu : c[i]? = some u) : w'.cell? ⟨w.heap.size, i, none⟩ = some u := by
  simp only [World.cell?, h]; simpa using hu

set_option maxHeartbeats 4000000 in
set_option maxRecDepth 100000 in
theorem check_calls (a : Nat → Addr) (r : RecV) (w : World) (hs : Sents w a) :
    Calls Tryd.prog 42 #[recV r] w fun e w' => e = .returned (errv a (recE r)) ∧ Below w.heap.size w w' := by
  obtain ⟨b1, h1⟩ : ∃ b, inB r.kind 1 10 = b := ⟨_, rfl⟩
  obtain ⟨b2, h2⟩ : ∃ b, inB r.txn (imin (txnMax r) 1) (txnMax r) = b := ⟨_, rfl⟩
  obtain ⟨b3, h3⟩ : ∃ b, inB r.page (imin (pageMax r) 1) (pageMax r) = b := ⟨_, rfl⟩
  obtain ⟨b4, h4⟩ : ∃ b, prevOk r = b := ⟨_, rfl⟩
  obtain ⟨b5, h5⟩ : ∃ b, nextOk r = b := ⟨_, rfl⟩
  obtain ⟨b6, h6⟩ : ∃ b, rkeyOk r = b := ⟨_, rfl⟩
  obtain ⟨b7, h7⟩ : ∃ b, valsOk r = b := ⟨_, rfl⟩
  have HR := Aside0.mk (recOk_of h1 h2 h3 h4 h5 h6 h7)
  obtain ⟨tm, htm⟩ : ∃ x, txnMax r = x := ⟨_, rfl⟩
  obtain ⟨pm, hpm⟩ : ∃ x, pageMax r = x := ⟨_, rfl⟩
  rw [htm] at h2
  rw [hpm] at h3
  have H1 := Aside0.mk h1
  have H2 := Aside0.mk h2
  have H3 := Aside0.mk h3
  have H4 := Aside0.mk h4
  have H5 := Aside0.mk h5
  have H6 := Aside0.mk h6
  have H7 := Aside0.mk h7
  have HT := Aside0.mk htm
  have HP := Aside0.mk hpm
  have HS := Aside0.mk hs
  have hg1 : w.cell? ⟨0, 0, none⟩ = some (.iface 163 (.pointer (some (a 1)))) := hs.cell 1 (by decide)
  have hlt1 : 0 < w.heap.size := World.block_lt_of_cell? _ _ hg1
  clear h1 h2 h3 h4 h5 h6 h7 htm hpm hs
  obtain ⟨k, t, pg, pv, nx, ky, hd, hh, ol, nw⟩ := r
  obtain ⟨c1, hc1⟩ : ∃ b, inB k 1 6 = b := ⟨_, rfl⟩
  have HC1 := Aside0.mk hc1
  clear hc1
  go_enter Tryd.func42, Tryd.ntmps42
  go_upto_region 2 with fail
  go_cut [12] (fun s12 wx => ∃ bt : Bool, s12 = .bool bt ∧ Aside0 ((if bt then (60000 : Int) else 0) = tm) ∧ wx = (w.alloc (.cells #[.int .i64 k, .int .i64 t, .int .i64 pg, .int .i64 pv, .int .i64 nx, .int .i64 ky, .bool hd, .bool hh, .int .i64 ol, .int .i64 nw] 53)))
  case first =>
    go_wp2_with fail
    refine (in_calls _ _ _ _ HC1.out _).mono ?_
    rintro e w' ⟨rfl, rfl⟩
    cases c1 with
    | true =>
      go_wp2_with fail
      go_meet
      exact ⟨true, rfl, ⟨by rw [← HT.out, tm_t _ HC1.out]; rfl⟩, rfl⟩
    | false =>
      go_wp2_with fail
      go_meet
      exact ⟨_, rfl, ⟨by rw [← HT.out, tm_f _ HC1.out]⟩, rfl⟩
  case rest =>
  obtain ⟨bt, rfl, HBT, rfl⟩ := hcut
  go_upto_if 12 with fail
  go_cut [3] (fun s3 wx => s3 = .int .i64 tm ∧ wx = (w.alloc (.cells #[.int .i64 k, .int .i64 t, .int .i64 pg, .int .i64 pv, .int .i64 nx, .int .i64 ky, .bool hd, .bool hh, .int .i64 ol, .int .i64 nw] 53)))
  case first =>
    have := HBT.out
    cases bt with
    | true => subst this; go_wp2_with fail; go_meet; exact ⟨rfl, rfl⟩
    | false => subst this; go_wp2_with fail; go_meet; exact ⟨rfl, rfl⟩
  case rest =>
  obtain ⟨rfl, rfl⟩ := hcut
  go_upto_region 4 with fail
  go_cut [25] (fun s25 wx => ∃ bt : Bool, s25 = .bool bt ∧ Aside0 ((if bt then (32 : Int) else 0) = pm) ∧ wx = (w.alloc (.cells #[.int .i64 k, .int .i64 t, .int .i64 pg, .int .i64 pv, .int .i64 nx, .int .i64 ky, .bool hd, .bool hh, .int .i64 ol, .int .i64 nw] 53)))
  case first =>
    rcases (show k = 2 ∨ k = 3 ∨ k = 9 ∨ (k ≠ 2 ∧ k ≠ 3 ∧ k ≠ 9) by omega) with h | h | h | ⟨h1, h2, h3⟩
    · subst h
      go_wp2_with fail
      go_meet
      exact ⟨true, rfl, ⟨by rw [← HP.out, pm_t _ (.inl rfl)]; rfl⟩, rfl⟩
    · subst h
      go_wp2_with fail
      go_meet
      exact ⟨true, rfl, ⟨by rw [← HP.out, pm_t _ (.inr (.inl rfl))]; rfl⟩, rfl⟩
    · subst h
      go_wp2_with fail
      go_meet
      exact ⟨true, rfl, ⟨by rw [← HP.out, pm_t _ (.inr (.inr rfl))]; rfl⟩, rfl⟩
    · have q1 : (k == 2) = false := by simp [h1]
      have q2 : (k == 3) = false := by simp [h2]
      have q3 : (k == 9) = false := by simp [h3]
      have HH := Aside0.mk (And.intro h1 (And.intro h2 h3))
      clear h1 h2 h3
      go_wp2_with fail
      go_meet
      exact ⟨false, rfl, ⟨by rw [← HP.out, pm_f _ HH.out.1 HH.out.2.1 HH.out.2.2]; rfl⟩, rfl⟩
  case rest =>
  obtain ⟨bp, rfl, HBP, rfl⟩ := hcut
  go_upto_if 25 with fail
  go_cut [4] (fun s4 wx => s4 = .int .i64 pm ∧ wx = (w.alloc (.cells #[.int .i64 k, .int .i64 t, .int .i64 pg, .int .i64 pv, .int .i64 nx, .int .i64 ky, .bool hd, .bool hh, .int .i64 ol, .int .i64 nw] 53)))
  case first =>
    have := HBP.out
    cases bp with
    | true => subst this; go_wp2_with fail; go_meet; exact ⟨rfl, rfl⟩
    | false => subst this; go_wp2_with fail; go_meet; exact ⟨rfl, rfl⟩
  case rest =>
  obtain ⟨rfl, rfl⟩ := hcut
  have HB := Aside0.mk (below_alloc (Below.refl w.heap.size w) (.cells #[.int .i64 k, .int .i64 t, .int .i64 pg, .int .i64 pv, .int .i64 nx, .int .i64 ky, .bool hd, .bool hh, .int .i64 ol, .int .i64 nw] 53))
  have HBAD := Aside0.mk (show (b1 && b2 && b3 && b4 && b5 && b6 && b7) = false → errv a (recE ⟨k, t, pg, pv, nx, ky, hd, hh, ol, nw⟩) = .iface 163 (.pointer (some (a 1))) from fun h => by
    unfold recE; rw [HR.out, h]; rfl)
  have HGOOD := Aside0.mk (show (b1 && b2 && b3 && b4 && b5 && b6 && b7) = true → errv a (recE ⟨k, t, pg, pv, nx, ky, hd, hh, ol, nw⟩) = .nilIface from fun h => by
    unfold recE; rw [HR.out, h]; rfl)
  go_wp2_with fail
  refine (in_calls _ _ _ _ H1.out _).mono ?_
  rintro e w' ⟨rfl, rfl⟩
  cases b1 with
  | false =>
    go_wp2_with fail
    go_ret
    exact ⟨by simp [HBAD.out (by simp)], HB.out⟩
  | true =>
  go_wp2_with fail
  refine (in_calls _ _ _ _ H2.out _).mono ?_
  rintro e w' ⟨rfl, rfl⟩
  cases b2 with
  | false =>
    go_wp2_with fail
    go_ret
    exact ⟨by simp [HBAD.out (by simp)], HB.out⟩
  | true =>
  go_wp2_with fail
  refine (in_calls _ _ _ _ H3.out _).mono ?_
  rintro e w' ⟨rfl, rfl⟩
  cases b3 with
  | false =>
    go_wp2_with fail
    go_ret
    exact ⟨by simp [HBAD.out (by simp)], HB.out⟩
  | true =>
  go_wp2_with fail
  refine (prev_calls ⟨k, t, pg, pv, nx, ky, hd, hh, ol, nw⟩ _ H4.out _).mono ?_
  rintro e w3 ⟨rfl, hb⟩
  have hc3_0 : w3.cell? ⟨w.heap.size, 0, none⟩ = some (.int .i64 k) := (hb.cell (p := ⟨w.heap.size, 0, none⟩) (by simp)).trans (by simp)
  have hc3_1 : w3.cell? ⟨w.heap.size, 1, none⟩ = some (.int .i64 t) := (hb.cell (p := ⟨w.heap.size, 1, none⟩) (by simp)).trans (by simp)
  have hc3_2 : w3.cell? ⟨w.heap.size, 2, none⟩ = some (.int .i64 pg) := (hb.cell (p := ⟨w.heap.size, 2, none⟩) (by simp)).trans (by simp)
  have hc3_3 : w3.cell? ⟨w.heap.size, 3, none⟩ = some (.int .i64 pv) := (hb.cell (p := ⟨w.heap.size, 3, none⟩) (by simp)).trans (by simp)
  have hc3_4 : w3.cell? ⟨w.heap.size, 4, none⟩ = some (.int .i64 nx) := (hb.cell (p := ⟨w.heap.size, 4, none⟩) (by simp)).trans (by simp)
  have hc3_5 : w3.cell? ⟨w.heap.size, 5, none⟩ = some (.int .i64 ky) := (hb.cell (p := ⟨w.heap.size, 5, none⟩) (by simp)).trans (by simp)
  have hc3_6 : w3.cell? ⟨w.heap.size, 6, none⟩ = some (.bool hd) := (hb.cell (p := ⟨w.heap.size, 6, none⟩) (by simp)).trans (by simp)
  have hc3_7 : w3.cell? ⟨w.heap.size, 7, none⟩ = some (.bool hh) := (hb.cell (p := ⟨w.heap.size, 7, none⟩) (by simp)).trans (by simp)
  have hc3_8 : w3.cell? ⟨w.heap.size, 8, none⟩ = some (.int .i64 ol) := (hb.cell (p := ⟨w.heap.size, 8, none⟩) (by simp)).trans (by simp)
  have hc3_9 : w3.cell? ⟨w.heap.size, 9, none⟩ = some (.int .i64 nw) := (hb.cell (p := ⟨w.heap.size, 9, none⟩) (by simp)).trans (by simp)
  have hz3 : w.heap.size < w3.heap.size := by have := hb.size; simp at this; omega
  have hg13 : w3.cell? ⟨0, 0, none⟩ = some (.iface 163 (.pointer (some (a 1)))) := (hb.cell (p := ⟨0, 0, none⟩) (by simp <;> omega)).trans (by rw [World.cell?_alloc_lt _ _ _ (by exact hlt1)]; exact hg1)
  replace HB := Aside0.mk (below_step HB.out hb)
  clear hb
  cases b4 with
  | false =>
    go_wp2_with fail
    go_ret
    exact ⟨by simp [HBAD.out (by simp)], HB.out⟩
  | true =>
  go_wp2_with fail
  refine (next_calls ⟨k, t, pg, pv, nx, ky, hd, hh, ol, nw⟩ _ H5.out _).mono ?_
  rintro e w4 ⟨rfl, hb⟩
  have hc4_0 : w4.cell? ⟨w.heap.size, 0, none⟩ = some (.int .i64 k) := (hb.cell (p := ⟨w.heap.size, 0, none⟩) (by exact hz3)).trans (by exact hc3_0)
  have hc4_1 : w4.cell? ⟨w.heap.size, 1, none⟩ = some (.int .i64 t) := (hb.cell (p := ⟨w.heap.size, 1, none⟩) (by exact hz3)).trans (by exact hc3_1)
  have hc4_2 : w4.cell? ⟨w.heap.size, 2, none⟩ = some (.int .i64 pg) := (hb.cell (p := ⟨w.heap.size, 2, none⟩) (by exact hz3)).trans (by exact hc3_2)
  have hc4_3 : w4.cell? ⟨w.heap.size, 3, none⟩ = some (.int .i64 pv) := (hb.cell (p := ⟨w.heap.size, 3, none⟩) (by exact hz3)).trans (by exact hc3_3)
  have hc4_4 : w4.cell? ⟨w.heap.size, 4, none⟩ = some (.int .i64 nx) := (hb.cell (p := ⟨w.heap.size, 4, none⟩) (by exact hz3)).trans (by exact hc3_4)
  have hc4_5 : w4.cell? ⟨w.heap.size, 5, none⟩ = some (.int .i64 ky) := (hb.cell (p := ⟨w.heap.size, 5, none⟩) (by exact hz3)).trans (by exact hc3_5)
  have hc4_6 : w4.cell? ⟨w.heap.size, 6, none⟩ = some (.bool hd) := (hb.cell (p := ⟨w.heap.size, 6, none⟩) (by exact hz3)).trans (by exact hc3_6)
  have hc4_7 : w4.cell? ⟨w.heap.size, 7, none⟩ = some (.bool hh) := (hb.cell (p := ⟨w.heap.size, 7, none⟩) (by exact hz3)).trans (by exact hc3_7)
  have hc4_8 : w4.cell? ⟨w.heap.size, 8, none⟩ = some (.int .i64 ol) := (hb.cell (p := ⟨w.heap.size, 8, none⟩) (by exact hz3)).trans (by exact hc3_8)
  have hc4_9 : w4.cell? ⟨w.heap.size, 9, none⟩ = some (.int .i64 nw) := (hb.cell (p := ⟨w.heap.size, 9, none⟩) (by exact hz3)).trans (by exact hc3_9)
  have hz4 : w.heap.size < w4.heap.size := by have := hb.size; omega
  have hg14 : w4.cell? ⟨0, 0, none⟩ = some (.iface 163 (.pointer (some (a 1)))) := (hb.cell (p := ⟨0, 0, none⟩) (by show 0 < _; omega)).trans (by exact hg13)
  replace HB := Aside0.mk (below_step HB.out hb)
  clear hc3_0 hc3_1 hc3_2 hc3_3 hc3_4 hc3_5 hc3_6 hc3_7 hc3_8 hc3_9 hg13
  clear hb
  cases b5 with
  | false =>
    go_wp2_with fail
    go_ret
    exact ⟨by simp [HBAD.out (by simp)], HB.out⟩
  | true =>
  go_wp2_with fail
  refine (key_calls ⟨k, t, pg, pv, nx, ky, hd, hh, ol, nw⟩ _ H6.out _).mono ?_
  rintro e w5 ⟨rfl, hb⟩
  have hc5_0 : w5.cell? ⟨w.heap.size, 0, none⟩ = some (.int .i64 k) := (hb.cell (p := ⟨w.heap.size, 0, none⟩) (by exact hz4)).trans (by exact hc4_0)
  have hc5_1 : w5.cell? ⟨w.heap.size, 1, none⟩ = some (.int .i64 t) := (hb.cell (p := ⟨w.heap.size, 1, none⟩) (by exact hz4)).trans (by exact hc4_1)
  have hc5_2 : w5.cell? ⟨w.heap.size, 2, none⟩ = some (.int .i64 pg) := (hb.cell (p := ⟨w.heap.size, 2, none⟩) (by exact hz4)).trans (by exact hc4_2)
  have hc5_3 : w5.cell? ⟨w.heap.size, 3, none⟩ = some (.int .i64 pv) := (hb.cell (p := ⟨w.heap.size, 3, none⟩) (by exact hz4)).trans (by exact hc4_3)
  have hc5_4 : w5.cell? ⟨w.heap.size, 4, none⟩ = some (.int .i64 nx) := (hb.cell (p := ⟨w.heap.size, 4, none⟩) (by exact hz4)).trans (by exact hc4_4)
  have hc5_5 : w5.cell? ⟨w.heap.size, 5, none⟩ = some (.int .i64 ky) := (hb.cell (p := ⟨w.heap.size, 5, none⟩) (by exact hz4)).trans (by exact hc4_5)
  have hc5_6 : w5.cell? ⟨w.heap.size, 6, none⟩ = some (.bool hd) := (hb.cell (p := ⟨w.heap.size, 6, none⟩) (by exact hz4)).trans (by exact hc4_6)
  have hc5_7 : w5.cell? ⟨w.heap.size, 7, none⟩ = some (.bool hh) := (hb.cell (p := ⟨w.heap.size, 7, none⟩) (by exact hz4)).trans (by exact hc4_7)
  have hc5_8 : w5.cell? ⟨w.heap.size, 8, none⟩ = some (.int .i64 ol) := (hb.cell (p := ⟨w.heap.size, 8, none⟩) (by exact hz4)).trans (by exact hc4_8)
  have hc5_9 : w5.cell? ⟨w.heap.size, 9, none⟩ = some (.int .i64 nw) := (hb.cell (p := ⟨w.heap.size, 9, none⟩) (by exact hz4)).trans (by exact hc4_9)
  have hz5 : w.heap.size < w5.heap.size := by have := hb.size; omega
  have hg15 : w5.cell? ⟨0, 0, none⟩ = some (.iface 163 (.pointer (some (a 1)))) := (hb.cell (p := ⟨0, 0, none⟩) (by show 0 < _; omega)).trans (by exact hg14)
  replace HB := Aside0.mk (below_step HB.out hb)
  clear hc4_0 hc4_1 hc4_2 hc4_3 hc4_4 hc4_5 hc4_6 hc4_7 hc4_8 hc4_9 hg14
  clear hb
  cases b6 with
  | false =>
    go_wp2_with fail
    go_ret
    exact ⟨by simp [HBAD.out (by simp)], HB.out⟩
  | true =>
  go_wp2_with fail
  refine (values_calls ⟨k, t, pg, pv, nx, ky, hd, hh, ol, nw⟩ _ H7.out _).mono ?_
  rintro e w6 ⟨rfl, hb⟩
  have hc6_0 : w6.cell? ⟨w.heap.size, 0, none⟩ = some (.int .i64 k) := (hb.cell (p := ⟨w.heap.size, 0, none⟩) (by exact hz5)).trans (by exact hc5_0)
  have hc6_1 : w6.cell? ⟨w.heap.size, 1, none⟩ = some (.int .i64 t) := (hb.cell (p := ⟨w.heap.size, 1, none⟩) (by exact hz5)).trans (by exact hc5_1)
  have hc6_2 : w6.cell? ⟨w.heap.size, 2, none⟩ = some (.int .i64 pg) := (hb.cell (p := ⟨w.heap.size, 2, none⟩) (by exact hz5)).trans (by exact hc5_2)
  have hc6_3 : w6.cell? ⟨w.heap.size, 3, none⟩ = some (.int .i64 pv) := (hb.cell (p := ⟨w.heap.size, 3, none⟩) (by exact hz5)).trans (by exact hc5_3)
  have hc6_4 : w6.cell? ⟨w.heap.size, 4, none⟩ = some (.int .i64 nx) := (hb.cell (p := ⟨w.heap.size, 4, none⟩) (by exact hz5)).trans (by exact hc5_4)
  have hc6_5 : w6.cell? ⟨w.heap.size, 5, none⟩ = some (.int .i64 ky) := (hb.cell (p := ⟨w.heap.size, 5, none⟩) (by exact hz5)).trans (by exact hc5_5)
  have hc6_6 : w6.cell? ⟨w.heap.size, 6, none⟩ = some (.bool hd) := (hb.cell (p := ⟨w.heap.size, 6, none⟩) (by exact hz5)).trans (by exact hc5_6)
  have hc6_7 : w6.cell? ⟨w.heap.size, 7, none⟩ = some (.bool hh) := (hb.cell (p := ⟨w.heap.size, 7, none⟩) (by exact hz5)).trans (by exact hc5_7)
  have hc6_8 : w6.cell? ⟨w.heap.size, 8, none⟩ = some (.int .i64 ol) := (hb.cell (p := ⟨w.heap.size, 8, none⟩) (by exact hz5)).trans (by exact hc5_8)
  have hc6_9 : w6.cell? ⟨w.heap.size, 9, none⟩ = some (.int .i64 nw) := (hb.cell (p := ⟨w.heap.size, 9, none⟩) (by exact hz5)).trans (by exact hc5_9)
  have hz6 : w.heap.size < w6.heap.size := by have := hb.size; omega
  have hg16 : w6.cell? ⟨0, 0, none⟩ = some (.iface 163 (.pointer (some (a 1)))) := (hb.cell (p := ⟨0, 0, none⟩) (by show 0 < _; omega)).trans (by exact hg15)
  replace HB := Aside0.mk (below_step HB.out hb)
  clear hc5_0 hc5_1 hc5_2 hc5_3 hc5_4 hc5_5 hc5_6 hc5_7 hc5_8 hc5_9 hg15
  clear hb
  cases b7 with
  | false =>
    go_wp2_with fail
    go_ret
    exact ⟨by simp [HBAD.out (by simp)], HB.out⟩
  | true =>
  go_wp2_with fail
  go_ret
  exact ⟨by simp [HGOOD.out (by simp)], HB.out⟩

end Go.Proofs.YtlgpkbhajloajaaDoor.RecC
/- The contract of rec.Bytes. No condition but that api's errors are what their text says. -/
namespace Go.Proofs.YtlgpkbhajloajaaDoor.RecB
open Go.RowKit Go.Proofs.YtlgpkbhajloajaaDoorW.PrintWords Go.Proofs.YtlgpkbhajloajaaDoorW.PrintLast Go.Proofs.YtlgpkbhajloajaaDoorW.PrintMore
open Go.Proofs.YtlgpkbhajloajaaDoor.See Go.Proofs.YtlgpkbhajloajaaDoor.Mem Go.Proofs.YtlgpkbhajloajaaDoor.Clone Go.Proofs.YtlgpkbhajloajaaDoor.Cell Go.Proofs.YtlgpkbhajloajaaDoor.Page Go.Proofs.YtlgpkbhajloajaaDoor.PageB Go.Proofs.YtlgpkbhajloajaaDoor.PageR Go.Proofs.YtlgpkbhajloajaaDoor.Disk Go.Proofs.YtlgpkbhajloajaaDoor.RecD Go.Proofs.YtlgpkbhajloajaaDoor.Rec Go.Proofs.YtlgpkbhajloajaaDoor.RecC
attribute [local go_sem] max2_imax min2_imin max_two min_two
set_option linter.unusedVariables false
set_option linter.unusedSimpArgs false

/-- A record's bytes of zeros, as they are made. -/
def z40 : Array Value := madeCells #[.int .u8 0] 40
theorem z40_list : z40.toList = (List.replicate 40 (0 : Int)).map (.int .u8) := by rw [z40, toList_madeCells_one, List.map_replicate]
theorem make40 (W : World) : (Instr.makeSlice 41 (.int .i64 40) (.int .i64 40)).run Tryd.prog W = .ok (.slice (some ⟨W.heap.size, 0, none⟩) 40 40) (W.alloc (.cells z40 5)) :=
  run_make_row' (P := Tryd.prog) 41 5 (.int .u8 0) 1 Tryd.underlying41 info_u8 rfl .i64 .i64 40 (by decide) (by decide) W
theorem bs_z40 {W : World} {b : Nat} (h : W.heap[b]? = some (.cells z40 5 (0, 0))) : BS W (.slice (some ⟨b, 0, none⟩) 40 40) (List.replicate 40 0) := by
  have hl : z40.size = 40 := size_madeCells _ _
  refine ⟨by simp, by simp, .inr ⟨b, 0, 40, z40, _, by simp, h, by simp, by decide, by simp [hl], ?_⟩⟩
  rw [List.drop_zero, z40_list, List.length_replicate]
  exact List.take_of_length_le (by simp)

/-- The numbers that rec.Bytes puts, and where, in memory. -/
def partsA (r : RecV) : Array Value := #[.int .u64 0, .int .u64 1, .int .u64 (IntKind.u64.wrap r.kind), .int .u64 1, .int .u64 1, .int .u64 (IntKind.u64.wrap (flagsOf r)), .int .u64 2, .int .u64 2, .int .u64 (IntKind.u64.wrap r.txn), .int .u64 4, .int .u64 2, .int .u64 (IntKind.u64.wrap r.page), .int .u64 8, .int .u64 4, .int .u64 (IntKind.u64.wrap r.prev), .int .u64 12, .int .u64 4, .int .u64 (IntKind.u64.wrap r.next), .int .u64 16, .int .u64 4, .int .u64 (IntKind.u64.wrap r.key), .int .u64 24, .int .u64 8, .int .u64 (IntKind.u64.wrap r.old), .int .u64 32, .int .u64 8, .int .u64 (IntKind.u64.wrap r.new)]

theorem partsA_at (r : RecV) : ∀ i, i < 9 → (partsA r)[i * 3]? = some (.int .u64 (recPart r i).1) ∧ (partsA r)[i * 3 + 1]? = some (.int .u64 (recPart r i).2.1) ∧ (partsA r)[i * 3 + 2]? = some (.int .u64 (IntKind.u64.wrap (recPart r i).2.2)) := by
  intro i hi
  match i, hi with
  | 0, _ => exact ⟨rfl, rfl, rfl⟩
  | 1, _ => exact ⟨rfl, rfl, rfl⟩
  | 2, _ => exact ⟨rfl, rfl, rfl⟩
  | 3, _ => exact ⟨rfl, rfl, rfl⟩
  | 4, _ => exact ⟨rfl, rfl, rfl⟩
  | 5, _ => exact ⟨rfl, rfl, rfl⟩
  | 6, _ => exact ⟨rfl, rfl, rfl⟩
  | 7, _ => exact ⟨rfl, rfl, rfl⟩
  | 8, _ => exact ⟨rfl, rfl, rfl⟩

theorem flags_or (hd hh : Bool) (r : RecV) (h1 : r.had = hd) (h2 : r.has = hh) : (if hh then bits .or .u64 (if hd then bits .or .u64 0 1 else 0) 2 else (if hd then bits .or .u64 0 1 else 0)) = IntKind.u64.wrap (flagsOf r) := by
  unfold flagsOf; rw [h1, h2]
  cases hd <;> cases hh <;> decide

/-- What rec.Bytes returns. -/
def recBV (r : RecV) : List Int := if recOk r then recBytes r else []

set_option maxHeartbeats 4000000 in
set_option maxRecDepth 100000 in
theorem rbytes_calls (a : Nat → Addr) (r : RecV) (w : World) (hs : Sents w a) :
    Calls Tryd.prog 81 #[recV r] w fun e w' => ∃ v, e = .returned (.tuple #[v, errv a (recE r)]) ∧ BS w' v (recBV r) ∧ Below w.heap.size w w' := by
  have HS := Aside0.mk hs
  clear hs
  obtain ⟨k, t, pg, pv, nx, ky, hd, hh, ol, nw⟩ := r
  obtain ⟨ok, hok⟩ : ∃ ok, recOk ⟨k, t, pg, pv, nx, ky, hd, hh, ol, nw⟩ = ok := ⟨_, rfl⟩
  have HOK := Aside0.mk hok
  clear hok
  go_enter Tryd.func81, Tryd.ntmps81
  go_wp2_with fail
  refine (check_calls a ⟨k, t, pg, pv, nx, ky, hd, hh, ol, nw⟩ _ (by exact HS.out.below (below_alloc (Below.refl _ _) _))).mono ?_
  rintro e w1 ⟨rfl, hb⟩
  have hc0 : w1.cell? ⟨w.heap.size, 0, none⟩ = some (.int .i64 k) := (hb.cell (p := ⟨w.heap.size, 0, none⟩) (by simp)).trans (by simp)
  have hc1 : w1.cell? ⟨w.heap.size, 1, none⟩ = some (.int .i64 t) := (hb.cell (p := ⟨w.heap.size, 1, none⟩) (by simp)).trans (by simp)
  have hc2 : w1.cell? ⟨w.heap.size, 2, none⟩ = some (.int .i64 pg) := (hb.cell (p := ⟨w.heap.size, 2, none⟩) (by simp)).trans (by simp)
  have hc3 : w1.cell? ⟨w.heap.size, 3, none⟩ = some (.int .i64 pv) := (hb.cell (p := ⟨w.heap.size, 3, none⟩) (by simp)).trans (by simp)
  have hc4 : w1.cell? ⟨w.heap.size, 4, none⟩ = some (.int .i64 nx) := (hb.cell (p := ⟨w.heap.size, 4, none⟩) (by simp)).trans (by simp)
  have hc5 : w1.cell? ⟨w.heap.size, 5, none⟩ = some (.int .i64 ky) := (hb.cell (p := ⟨w.heap.size, 5, none⟩) (by simp)).trans (by simp)
  have hc6 : w1.cell? ⟨w.heap.size, 6, none⟩ = some (.bool hd) := (hb.cell (p := ⟨w.heap.size, 6, none⟩) (by simp)).trans (by simp)
  have hc7 : w1.cell? ⟨w.heap.size, 7, none⟩ = some (.bool hh) := (hb.cell (p := ⟨w.heap.size, 7, none⟩) (by simp)).trans (by simp)
  have hc8 : w1.cell? ⟨w.heap.size, 8, none⟩ = some (.int .i64 ol) := (hb.cell (p := ⟨w.heap.size, 8, none⟩) (by simp)).trans (by simp)
  have hc9 : w1.cell? ⟨w.heap.size, 9, none⟩ = some (.int .i64 nw) := (hb.cell (p := ⟨w.heap.size, 9, none⟩) (by simp)).trans (by simp)
  have hz : w.heap.size < w1.heap.size := by have := hb.size; simp at this; omega
  have HB := Aside0.mk (below_step (below_alloc (Below.refl w.heap.size w) (.cells #[.int .i64 k, .int .i64 t, .int .i64 pg, .int .i64 pv, .int .i64 nx, .int .i64 ky, .bool hd, .bool hh, .int .i64 ol, .int .i64 nw] 53)) hb)
  clear hb
  cases ok with
  | false =>
    have hce : errv a (recE ⟨k, t, pg, pv, nx, ky, hd, hh, ol, nw⟩) = .iface 163 (.pointer (some (a 1))) := by unfold recE; rw [HOK.out]; rfl
    have HCE := Aside0.mk hce
    rw [hce]
    clear hce
    go_wp2_with fail
    exact bodyPost_ret (v := .tuple #[.slice none 0 0, .iface 163 (.pointer (some (a 1)))]) (by simp [results, Tryd.results81, go_sem]) rfl ⟨_, by first | rfl | rw [HCE.out], by unfold recBV; rw [HOK.out]; exact BS.nil _, HB.out⟩
  | true =>
    have hce : errv a (recE ⟨k, t, pg, pv, nx, ky, hd, hh, ol, nw⟩) = .nilIface := by unfold recE; rw [HOK.out]; rfl
    have HCE := Aside0.mk hce
    rw [hce]
    clear hce
    have hmk := make40
    obtain ⟨f1, hf1⟩ : ∃ f1 : Int, (if hd then bits .or .u64 0 1 else 0) = f1 := ⟨_, rfl⟩
    obtain ⟨f2, hf2⟩ : ∃ f2 : Int, (if hh then bits .or .u64 f1 2 else f1) = f2 := ⟨_, rfl⟩
    have HF1 := Aside0.mk hf1
    have HF2 := Aside0.mk hf2
    clear hf1 hf2
    go_upto_if 15 with fail
    go_cut [5] (fun s5 wx => s5 = .int .u64 f1 ∧ wx = w1)
    case first =>
      have := HF1.out
      cases hd with
      | true => go_wp2_with fail; go_meet; exact ⟨by rw [← this]; rfl, rfl⟩
      | false => go_wp2_with fail; go_meet; exact ⟨by rw [← this]; rfl, rfl⟩
    case rest =>
    obtain ⟨rfl, rfl⟩ := hcut
    go_upto_if 19 with fail
    go_cut [5] (fun s5 wx => s5 = .int .u64 f2 ∧ wx = wc)
    case first =>
      have := HF2.out
      cases hh with
      | true => go_wp2_with fail; go_meet; exact ⟨by rw [← this]; rfl, rfl⟩
      | false => go_wp2_with fail; go_meet; exact ⟨by rw [← this]; rfl, rfl⟩
    case rest =>
    obtain ⟨rfl, rfl⟩ := hcut
    have hf3 : f2 = IntKind.u64.wrap (flagsOf ⟨k, t, pg, pv, nx, ky, hd, hh, ol, nw⟩) := by rw [← HF2.out, ← HF1.out]; exact flags_or hd hh _ rfl rfl
    have HF3 := Aside0.mk hf3
    clear hf3
    obtain ⟨wo, rfl⟩ : ∃ wo : World, wo = wc := ⟨_, rfl⟩
    go_wp2_with fail
    obtain ⟨r, hr⟩ : ∃ r : RecV, r = ⟨k, t, pg, pv, nx, ky, hd, hh, ol, nw⟩ := ⟨_, rfl⟩
    have HRR := Aside0.mk hr
    clear hr
    clear hc0 hc1 hc2 hc3 hc4 hc5 hc6 hc7 hc8 hc9
    go_loopg [6, 59] 10 (fun kq v6 v59 w' => ∃ (i : Int) (v : Value), v6 = v ∧ v59 = .int .i64 i ∧ Aside0 (0 ≤ i ∧ i ≤ 9 ∧ (kq : Int) = 10 - i) ∧ Aside0 (w'.heap[wo.heap.size + 1]? = some (.cells (partsA r) 152 (0, 0))) ∧ Aside0 (BS w' v (recN r i.toNat)) ∧ Aside0 (Below w.heap.size w w'))
    case atStart =>
      refine ⟨0, _, rfl, rfl, ⟨by omega, by omega, by omega⟩, ⟨?_⟩, ⟨?_⟩, ⟨by repeat (first | exact HB.out | apply below_drew1 | apply below_alloc)⟩⟩
      · rw [HRR.out]
        unfold partsA
        simp only
        rw [← HF3.out]
        show ((wo.heap.push _).push _)[wo.heap.size + 1]? = _
        rw [show wo.heap.size + 1 = (wo.heap.push (Obj.cells z40 5)).size from by simp]
        exact Array.getElem?_push_size
      · exact bs_z40 (by
          show ((wo.heap.push _).push _)[wo.heap.size]? = _
          rw [Array.getElem?_push, if_neg (by simp), Array.getElem?_push_size])
    case round =>
      obtain ⟨i, v, rfl, rfl, HI, HP, HV, HB2⟩ := hrel
      have hi0 : 0 ≤ i := HI.out.1
      by_cases hlt : i < 9
      · obtain ⟨p0, p1, p2⟩ := partsA_at r i.toNat (by omega)
        obtain ⟨q0, q1, q2, q3⟩ := recPart_fits r i.toNat (by omega)
        have hl : (recN r i.toNat).length = 40 := recN_len r i.toNat (by omega)
        have hstep : recN r (i.toNat + 1) = putL (recN r i.toNat) (recPart r i.toNat).1.toNat (recPart r i.toNat).2.1.toNat (IntKind.u64.wrap (recPart r i.toNat).2.2) := rfl
        obtain ⟨⟨x0, x1, x2⟩, hx⟩ : ∃ x, recPart r i.toNat = x := ⟨_, rfl⟩
        rw [hx] at p0 p1 p2 q0 q1 q2 q3 hstep
        simp only at p0 p1 p2 q0 q1 q2 q3 hstep
        have hd0 : wr.cell? ⟨wo.heap.size + 1, i.toNat * 3, none⟩ = some (.int .u64 x0) := by simp only [World.cell?, HP.out]; simpa using p0
        have hd1 : wr.cell? ⟨wo.heap.size + 1, i.toNat * 3 + 1, none⟩ = some (.int .u64 x1) := by simp only [World.cell?, HP.out]; simpa using p1
        have hd2 : wr.cell? ⟨wo.heap.size + 1, i.toNat * 3 + 2, none⟩ = some (.int .u64 (IntKind.u64.wrap x2)) := by simp only [World.cell?, HP.out]; simpa using p2
        obtain ⟨y, hy⟩ : ∃ y, IntKind.u64.wrap x2 = y := ⟨_, rfl⟩
        have hy0 : 0 ≤ y := by rw [← hy]; exact u64_nonneg _
        rw [hy] at hd2 hstep
        have q4 : x0 ≤ 40 := by omega
        have q5 : x1 ≤ 40 := by omega
        have hw0 : IntKind.i64.wrap x0 = x0 := IntWalk.i64_in _ (by omega)
        have hw1 : IntKind.i64.wrap x1 = x1 := IntWalk.i64_in _ (by omega)
        have HST := Aside0.mk hstep
        have HLL := Aside0.mk hl
        clear p0 p1 p2 hl hstep hx hy
        go_wp2_with fail
        refine (put_calls _ (recN r i.toNat) x0 x1 y (by omega) (by omega) (by omega) (by rw [HLL.out]; omega) hy0 _ (BS.below HV.out (by repeat (first | exact Below.refl _ _ | apply below_drew1 | apply below_alloc)))).mono ?_
        rintro e w5 ⟨v5, rfl, hv5, hb5⟩
        have HV5 := Aside0.mk hv5
        have HB5 := Aside0.mk (below_step (by repeat (first | exact HB2.out | apply below_drew1 | apply below_alloc)) hb5)
        have HP5 := Aside0.mk (show w5.heap[wo.heap.size + 1]? = some (.cells (partsA r) 152 (0, 0)) from by
          have hlt := heap_lt HP.out
          rw [hb5.block (wo.heap.size + 1) (by simp; omega)]
          exact (Below.heap_alloc _ _ _ hlt).trans HP.out)
        clear hv5 hb5 hw0 hw1
        go_wp2_with fail
        go_roundg (gk - 1)
        case measure => have := HI.out; omega
        case rel =>
          refine ⟨i + 1, _, rfl, rfl, ⟨by omega, by omega, by have := HI.out; omega⟩, HP5, ⟨?_⟩, HB5⟩
          rw [show (i + 1).toNat = i.toNat + 1 from by omega, HST.out]
          exact HV5.out
      · have HE := Aside0.mk (show recN r i.toNat = recBV ⟨k, t, pg, pv, nx, ky, hd, hh, ol, nw⟩ by
          unfold recBV
          rw [HOK.out, show i.toNat = 9 from by have := HI.out; omega, HRR.out]; rfl)
        go_wp2_with fail
        exact bodyPost_ret (v := .tuple #[u6, .nilIface]) (by simp [results, Tryd.results81, go_sem]) rfl ⟨u6, by rw [HCE.out], by
          have := HV.out
          rw [HE.out] at this
          exact this, HB2.out⟩

end Go.Proofs.YtlgpkbhajloajaaDoor.RecB
/- The contracts of cell.Fill, slices.Grow, slices.Concat, cell.Join. No condition. -/
namespace Go.Proofs.YtlgpkbhajloajaaDoor.Fill
open Go.RowKit Go.Proofs.YtlgpkbhajloajaaDoorW.PrintWords Go.Proofs.YtlgpkbhajloajaaDoorW.PrintLast Go.Proofs.YtlgpkbhajloajaaDoorW.PrintMore
open Go.Proofs.YtlgpkbhajloajaaDoor.See Go.Proofs.YtlgpkbhajloajaaDoor.Mem Go.Proofs.YtlgpkbhajloajaaDoor.Clone Go.Proofs.YtlgpkbhajloajaaDoor.Cell Go.Proofs.YtlgpkbhajloajaaDoor.Page Go.Proofs.YtlgpkbhajloajaaDoor.PageB Go.Proofs.YtlgpkbhajloajaaDoor.PageR Go.Proofs.YtlgpkbhajloajaaDoor.Disk Go.Proofs.YtlgpkbhajloajaaDoor.DiskN Go.Proofs.YtlgpkbhajloajaaDoor.DiskW Go.Proofs.YtlgpkbhajloajaaDoor.RecD
attribute [local go_sem] max2_imax min2_imin max_two min_two
set_option linter.unusedVariables false
set_option linter.unusedSimpArgs false

/-- append(v, make([]T, m)...), at the list of a plain region's operations. -/
theorem wpList_append_zeros {P : Program} (w : World) {ops : Array Oper} {rest : List Oper} {o : Oper} {a : Act} {Q : Exit → Act → World → Prop}
    (hg : o.guard = none) (s x : Operand) (t ti : TypeId) (hop : o.op = Op.call { callee := Callee.builtin Builtin.append, args := #[s, x], argTypes := #[t, ti] })
    (base : Nat) (e : TypeId) (i : TypeInfo) (z : Value) (size bytes : Nat) (ht : P.underlying t = some (.slice e)) {k : IntKind} (hti : P.underlying ti = some (.int k)) (hi : P.info? e = some i) (hz : i.zero = some z)
    (hsize : i.size = size) (hby : i.bytes = bytes) (hzs : z.cells.size = size) (hsz : 0 < size) (hb0 : 0 < bytes)
    (v : Value) (n : Nat) (xs : List Value) (hs : a.eval s = v) (hown : w.ownsRow base e size v n xs) (kx : IntKind) (m : Nat) (l : Int) (hx : a.eval x = .int kx l) (hl : l = (m : Int)) (h1 : ∀ u ∈ (Builtin.zeroCells z.cells m).toList, u.oneCell' = true)
    (hbytes : (n + m) * bytes ≤ 140737488355328) (hbase : base ≤ w.heap.size)
    (hK : ∀ v' w', w'.ownsRow base e size v' (n + m) (xs ++ (Builtin.zeroCells z.cells m).toList) → w.grownBy w' v.ownBlock → wpList P ops Q rest (a.put o.dst v') w') :
    wpList P ops Q (o :: rest) a w := by
  subst hl
  refine wpList_plain hg fun K hK' => ?_
  obtain ⟨v', w', hrun, h2, h3, _⟩ := run_append_zeros (P := P) w base t ti o.type e i z size bytes ht hti hi hz hsize hby hzs hsz hb0 v n xs hown kx m h1 hbytes hbase
  unfold Oper.wp
  simp [execOp, hop, resolve, invoke, builtin, hs, hx, hrun, Result.andThen]
  exact hK' _ _ (hK v' w' h2 h3)

/-- append of a slice that is read, nil or not, at the list of a plain region's operations. -/
theorem wpList_append_any_rd {P : Program} (w : World) {ops : Array Oper} {rest : List Oper} {o : Oper} {a : Act} {Q : Exit → Act → World → Prop}
    (hg : o.guard = none) (s x : Operand) (t : TypeId) (hop : o.op = Op.call { callee := Callee.builtin Builtin.append, args := #[s, x], argTypes := #[t, t] })
    (base : Nat) (e : TypeId) (i : TypeInfo) (z : Value) (size bytes : Nat) (ht : P.underlying t = some (.slice e)) (hi : P.info? e = some i) (hz : i.zero = some z)
    (hsize : i.size = size) (hby : i.bytes = bytes) (hzs : z.cells.size = size) (hsz : 0 < size)
    (v : Value) (n : Nat) (xs : List Value) (hs : a.eval s = v) (hown : w.ownsRow base e size v n xs) (A : Option Addr) (m c : Nat) (news : List Value) (hx : a.eval x = .slice A m c) (hrd : Rd w e size (.slice A m c) m news) (h1 : ∀ u ∈ news, u.oneCell' = true)
    (h63 : n + m ≤ maxLen) (hbytes : (n + m) * bytes ≤ 140737488355328) (hbase : base ≤ w.heap.size)
    (hK : ∀ v' w', w'.ownsRow base e size v' (n + m) (xs ++ news) → w.grownBy w' v.ownBlock → wpList P ops Q rest (a.put o.dst v') w') :
    wpList P ops Q (o :: rest) a w := by
  refine wpList_plain hg fun K hK' => ?_
  obtain ⟨A', c', he, hnone, hsome⟩ := Rd.form hrd
  injection he with he1 he2 he3
  subst he1 he3
  cases A with
  | none =>
    obtain ⟨rfl, rfl⟩ := hnone rfl
    have hnews : news = [] := List.eq_nil_of_length_eq_zero (by simpa using hrd.1)
    subst hnews
    have hrun := run_append_owned_none (P := P) w base t o.type e i size ht hi v n xs hown
    unfold Oper.wp
    simp [execOp, hop, resolve, invoke, builtin, hs, hx, hrun, Result.andThen]
    exact hK' _ _ (hK _ _ (by simpa using hown) (World.grownBy.refl _ _))
  | some ad =>
    obtain ⟨v', w', hrun, h2, h3, _⟩ := run_append_own_at (P := P) w base t o.type e i z size bytes ht hi hz hsize hby hzs hsz v n xs hown ad m c news hrd.1 (hsome ad rfl).1 h1 h63 hbytes hbase
    unfold Oper.wp
    simp [execOp, hop, resolve, invoke, builtin, hs, hx, hrun, Result.andThen]
    exact hK' _ _ (hK v' w' h2 h3)

theorem zeros_u8 (m : Nat) : (Builtin.zeroCells #[Value.int .u8 0] m).toList = (List.replicate m (0 : Int)).map (.int .u8) := by
  rw [List.map_replicate]
  apply List.ext_getElem
  · simp [Builtin.zeroCells, Value.cells]
  · intro i h1 h2
    simp [Builtin.zeroCells, Value.cells, Nat.mod_one]

theorem zeros_one (m : Nat) : ∀ u ∈ (Builtin.zeroCells (Value.int .u8 0).cells m).toList, u.oneCell' = true := by
  rw [show (Value.int .u8 0).cells = #[Value.int .u8 0] from rfl, zeros_u8]; intro u hu
  obtain ⟨x, _, rfl⟩ := List.mem_map.1 hu; rfl

theorem fillL_le {b : List Int} {n : Nat} (h : n ≤ b.length) : fillL b n = b := by unfold fillL; rw [Nat.sub_eq_zero_of_le h]; simp

set_option maxHeartbeats 2000000 in
set_option maxRecDepth 100000 in
theorem fill_calls (v : Value) (bs : List Int) (s : Int) (w : World) (hb : BS w v bs) (h0 : 0 ≤ s) (h1 : s ≤ 100000) :
    Calls Tryd.prog 80 #[v, .int .i64 s] w fun e w' => ∃ v', e = .returned v' ∧ BS w' v' (fillL bs s.toNat) ∧ Below w.heap.size w w' := by
  obtain ⟨i0, hi, hzz⟩ := Option.map_eq_some_iff.1 info_bytes
  simp only [Prod.mk.injEq] at hzz
  obtain ⟨hz0, hz1, hz2⟩ := hzz
  obtain ⟨A, c, rfl, hA, hr⟩ := Rd.form hb
  have HV := Aside0.mk hb
  obtain ⟨n, hn⟩ : ∃ n, bs.length = n := ⟨_, rfl⟩
  have HN := Aside0.mk hn
  have hn6 : n ≤ 1000000 := by rw [← hn]; exact hb.2.1
  rw [hn]
  clear hb hA hr hn
  have hcl := fun W h => clone_bytes (.slice A n c) n (bs.map (.int .u8)) W h (fun u hu => by obtain ⟨x, _, rfl⟩ := List.mem_map.1 hu; rfl)
  have HCL := Aside0.mk hcl
  clear hcl
  by_cases hle : s ≤ n
  · have HF := Aside0.mk (show fillL bs s.toNat = bs from fillL_le (by have := HN.out; omega))
    clear hi hz0 hz1 hz2
    go_enter Tryd.func80, Tryd.ntmps80
    go_wp2_with fail
    refine (HCL.out _ (by have h := HV.out; unfold BS at h; rw [HN.out] at h; exact h)).mono ?_
    rintro e w1 ⟨v1, rfl, ho, hB⟩
    have HO := Aside0.mk ho
    have HB := Aside0.mk hB
    clear ho hB
    go_wp2_with fail
    go_ret
    exact ⟨v1, by simp, by rw [HF.out]; unfold BS; rw [HN.out]; exact Rd.of_own HO.out hn6, HB.out⟩
  · obtain ⟨m, hm⟩ : ∃ m : Nat, s - n = m := ⟨(s - n).toNat, by omega⟩
    have HM := Aside0.mk hm
    have hmb : n + m ≤ 100000 := by omega
    clear hm
    go_enter Tryd.func80, Tryd.ntmps80
    go_wp2_with fail
    refine (HCL.out _ (by have h := HV.out; unfold BS at h; rw [HN.out] at h; exact h)).mono ?_
    rintro e w1 ⟨v1, rfl, ho, hB⟩
    have HO := Aside0.mk ho
    have HB := Aside0.mk hB
    clear ho hB
    go_wp2_with (at_builtin; refine wpList_append_zeros _ (by rfl) _ _ 41 3 (by rfl) w.heap.size 5 i0 (.int .u8 0) 1 1 Tryd.underlying41 Tryd.underlying3 hi hz0 hz1 hz2 rfl (by decide) (by decide) v1 n (bs.map (.int .u8)) (by rfl) HO.out .i64 m (s - n) (by rfl) HM.out (zeros_one m) (by omega) HB.out.size ?_)
    intro v2 w2 hown hgr
    have HO2 := Aside0.mk hown
    have HB2 := Aside0.mk (show Below w.heap.size w w2 from HB.out.grown hgr HB.out.size (fun k hk => (ow_block HO.out hk).1))
    clear hown hgr hi hz0 hz1 hz2
    obtain ⟨A2, c2, rfl, _⟩ := ow_slice HO2.out
    go_wp2_with fail
    go_ret
    refine ⟨.slice A2 (n + m) c2, by simp, ?_, HB2.out⟩
    have e : fillL bs s.toNat = bs ++ List.replicate m 0 := by unfold fillL; rw [HN.out, show s.toNat - n = m from by have := HM.out; omega]
    have := HO2.out
    rw [zeros_u8, ← List.map_append] at this
    unfold BS
    rw [e, List.length_append, HN.out, List.length_replicate]
    exact Rd.of_own this (by omega)

set_option maxHeartbeats 2000000 in
set_option maxRecDepth 100000 in
theorem grow_nil (n : Int) (w : World) (h0 : 0 ≤ n) (h1 : n ≤ 100000) :
    Calls Tryd.prog 103 #[.slice none 0 0, .int .i64 n] w fun e w' => ∃ v', e = .returned v' ∧ w'.ownsRow w.heap.size 5 1 v' 0 [] ∧ Below w.heap.size w w' := by
  obtain ⟨i0, hi, hzz⟩ := Option.map_eq_some_iff.1 info_bytes
  simp only [Prod.mk.injEq] at hzz
  obtain ⟨hz0, hz1, hz2⟩ := hzz
  by_cases hle : n = 0
  · subst hle
    go_enter Tryd.func103, Tryd.ntmps103
    go_wp2_with fail
    go_ret
    exact ⟨_, rfl, World.ownsRow_nil _ _ _ _, Below.refl _ _⟩
  · have hn1 : 0 < n := by omega
    have hnl : ¬ n < 0 := by omega
    obtain ⟨m, hm⟩ : ∃ m : Nat, n = m := ⟨n.toNat, by omega⟩
    have HM := Aside0.mk hm
    have hmb : m ≤ 100000 := by omega
    have hm1 : 0 < m := by omega
    clear hm hle
    go_enter Tryd.func103, Tryd.ntmps103
    go_wp2_with (at_builtin; refine wpList_append_zeros _ (by rfl) _ _ 41 3 (by rfl) w.heap.size 5 i0 (.int .u8 0) 1 1 Tryd.underlying41 Tryd.underlying3 hi hz0 hz1 hz2 rfl (by decide) (by decide) (.slice none 0 0) 0 [] (by rfl) (World.ownsRow_nil _ _ _ _) .i64 m n (by rfl) HM.out (zeros_one m) (by omega) (Nat.le_refl _) ?_)
    intro v2 w2 hown hgr
    obtain ⟨g, cap, rfl, hbg, hgl⟩ := hown.form (by omega)
    have HO2 := Aside0.mk hown
    have HB2 := Aside0.mk (show Below w.heap.size w w2 from (Below.refl _ _).grown hgr (Nat.le_refl _) (fun k hk => by cases hk))
    clear hown hgr hi hz0 hz1 hz2
    go_wp2_with fail
    go_ret
    refine ⟨.slice (some ⟨g, 0, none⟩) 0 cap, by simp, ?_, HB2.out⟩
    obtain ⟨o1, o2⟩ := HO2.out
    rcases o2 with ⟨o2, _⟩ | ⟨g', cap', cur, hv, hg, hh, hnc, hcm, hsz, htk⟩
    · cases o2
    · simp at hv
      obtain ⟨rfl, rfl⟩ := hv
      exact ⟨rfl, .inr ⟨g, cap, cur, rfl, hg, hh, by omega, hcm, hsz, by simp⟩⟩

/-- Slices of bytes in a slice. -/
def BSs (w : World) (v : Value) (n : Nat) (bss : List (List Int)) : Prop :=
  bss.length = n ∧ ∃ vs, Rd w 41 1 v n vs ∧ ∀ (i : Nat) (b : List Int), bss[i]? = some b → ∃ x, vs[i]? = some x ∧ BS w x b

theorem BSs.below {w w' : World} {v : Value} {n : Nat} {bss : List (List Int)} (h : BSs w v n bss) (hb : Below w.heap.size w w') : BSs w' v n bss := by
  obtain ⟨h1, vs, h2, h3⟩ := h
  exact ⟨h1, vs, h2.below hb, fun i b hi => by obtain ⟨x, hx, hx2⟩ := h3 i b hi; exact ⟨x, hx, hx2.below hb⟩⟩

theorem flat_take (bss : List (List Int)) (i : Nat) (b : List Int) (h : bss[i]? = some b) : (bss.take (i + 1)).flatten = (bss.take i).flatten ++ b := by
  obtain ⟨hl, he⟩ := List.getElem?_eq_some_iff.1 h
  rw [List.take_succ_eq_append_getElem hl, List.flatten_append, he]
  simp
theorem flat_le (bss : List (List Int)) (i : Nat) : (bss.take i).flatten.length ≤ bss.flatten.length := by
  conv => rhs; rw [← List.take_append_drop i bss]
  rw [List.flatten_append, List.length_append]; omega

set_option maxHeartbeats 4000000 in
set_option maxRecDepth 100000 in
theorem concat_calls (v : Value) (n : Nat) (bss : List (List Int)) (w : World) (hb : BSs w v n bss) (hB : bss.flatten.length ≤ 90000) (hn : n ≤ 1000) :
    Calls Tryd.prog 96 #[v] w fun e w' => ∃ v', e = .returned v' ∧ BS w' v' bss.flatten ∧ Below w.heap.size w w' := by
  obtain ⟨i0, hi, hzz⟩ := Option.map_eq_some_iff.1 info_bytes
  simp only [Prod.mk.injEq] at hzz
  obtain ⟨hz0, hz1, hz2⟩ := hzz
  have HV := Aside0.mk hb
  obtain ⟨hlen, vs, hrd, hel⟩ := hb
  obtain ⟨A, c, rfl, hA, hr⟩ := Rd.form hrd
  have HL := Aside0.mk hlen
  have HT := Aside0.mk hB
  have HI0 := Aside0.mk (And.intro hi (And.intro hz0 (And.intro hz1 hz2)))
  clear hlen hrd hel hA hr hB hi hz0 hz1 hz2
  -- what is read of one of them
  have HE := Aside0.mk (show ∀ (W : World) (i : Nat), BSs W (.slice A n c) n bss → i < n → ∃ ad A1 b c1, A = some ad ∧ bss[i]? = some b ∧ W.cell? (ad.add i) = some (.slice A1 b.length c1) ∧ BS W (.slice A1 b.length c1) b from fun W i h hi => by
    obtain ⟨hl, vs, hrd, hel⟩ := h
    obtain ⟨b, hbb⟩ : ∃ b, bss[i]? = some b := ⟨_, List.getElem?_eq_getElem (by omega)⟩
    obtain ⟨x, hx, hxb⟩ := hel i b hbb
    obtain ⟨A1, c1, rfl, _, _⟩ := Rd.form hxb
    obtain ⟨A', c', he, hA', hr'⟩ := Rd.form hrd
    injection he with he1 he2 he3
    subst he1 he3
    cases A with
    | none => have := (hA' rfl).1; omega
    | some ad => exact ⟨ad, A1, b, c1, rfl, hbb, (hr' ad rfl).1 i _ hx, hxb⟩)
  go_enter Tryd.func96, Tryd.ntmps96
  go_wp2_with fail
  go_loopg [3, 11] (n + 1) (fun kq v3 v11 w' => ∃ (i j : Int), v3 = .int .i64 j ∧ v11 = .int .i64 i ∧ Aside0 (0 ≤ i ∧ i ≤ n ∧ (kq : Int) = n + 1 - i ∧ j = (((bss.take i.toNat).flatten.length : Nat) : Int)) ∧ w' = w)
  case atStart => exact ⟨0, 0, rfl, rfl, ⟨by omega, by omega, by omega, by simp⟩, rfl⟩
  case round =>
    obtain ⟨i, j, rfl, rfl, HI, rfl⟩ := hrel
    have hi0 : 0 ≤ i := HI.out.1
    have hj0 : 0 ≤ j := by have := HI.out; omega
    have hj1 : j ≤ 90000 := by have := HI.out; have := flat_le bss i.toNat; have := HT.out; omega
    by_cases hlt : i < n
    · obtain ⟨ad, A1, b, c1, rfl, hbb, hcell, hbs⟩ := HE.out wr i.toNat HV.out (by omega)
      have HBB := Aside0.mk hbb
      have hjb : j + (b.length : Int) ≤ 90000 := by
        have := HI.out.2.2.2
        have h2 := flat_take bss i.toNat b hbb
        have h3 := flat_le bss (i.toNat + 1)
        rw [h2, List.length_append] at h3
        have := HT.out; omega
      have hjn : ¬ j + (b.length : Int) < 0 := by omega
      clear hbb hbs
      go_wp2_with fail
      go_roundg (gk - 1)
      case measure => have := HI.out; omega
      case rel => exact ⟨i + 1, _, rfl, rfl, ⟨by omega, by omega, by have := HI.out; omega, by
        rw [show (i + 1).toNat = i.toNat + 1 from by omega, flat_take _ _ _ HBB.out, List.length_append]
        have := HI.out; omega⟩, rfl⟩
    · have HJ := Aside0.mk (show j = ((bss.flatten.length : Nat) : Int) by
        have := HI.out.2.2.2
        rw [List.take_of_length_le (by have := HL.out; omega)] at this
        exact this)
      go_wp2_with fail
      refine (grow_nil j _ hj0 (by omega)).mono ?_
      rintro e w1 ⟨v1, rfl, ho, hB⟩
      have HO := Aside0.mk ho
      have HB := Aside0.mk hB
      clear ho hB hlt
      obtain ⟨wo, rfl⟩ : ∃ wo : World, wo = wr := ⟨_, rfl⟩
      go_wp2_with fail
      go_loopg [6, 27] (n + 1) (fun kq v6 v27 w' => ∃ (i : Int) (sl : Value), v6 = sl ∧ v27 = .int .i64 i ∧ Aside0 (0 ≤ i ∧ i ≤ n ∧ (kq : Int) = n + 1 - i) ∧ Aside0 (w'.ownsRow wo.heap.size 5 1 sl (bss.take i.toNat).flatten.length ((bss.take i.toNat).flatten.map (.int .u8))) ∧ Aside0 (Below wo.heap.size wo w'))
      case atStart => exact ⟨0, v1, rfl, rfl, ⟨by omega, by omega, by omega⟩, ⟨by simpa using HO.out⟩, HB⟩
      case round =>
        obtain ⟨i2, sl, rfl, rfl, HI2, HO2, HB2⟩ := hrel
        have hi20 : 0 ≤ i2 := HI2.out.1
        by_cases hlt2 : i2 < n
        · obtain ⟨ad, A1, b, c1, rfl, hbb, hcell, hbs⟩ := HE.out _ i2.toNat (HV.out.below HB2.out) (by omega)
          have HBB := Aside0.mk hbb
          have HBS := Aside0.mk hbs
          have hjb : (bss.take i2.toNat).flatten.length + b.length ≤ 90000 := by
            have h2 := flat_take bss i2.toNat b hbb
            have h3 := flat_le bss (i2.toNat + 1)
            rw [h2, List.length_append] at h3
            have := HT.out; omega
          obtain ⟨hi, hz0, hz1, hz2⟩ := HI0.out
          obtain ⟨A1', c1', he1, hnone, hsome⟩ := Rd.form hbs
          obtain ⟨fl, hfl⟩ : ∃ fl : List Int, (bss.take i2.toNat).flatten = fl := ⟨_, rfl⟩
          have HFL := Aside0.mk hfl
          have ho2 := HO2.out
          rw [hfl] at ho2 hjb
          replace HO2 := Aside0.mk ho2
          clear hbb hbs he1 hnone hsome hfl ho2
          go_wp2_with (at_builtin; (refine wpList_append_any_rd _ (by rfl) _ _ 41 (by rfl) wo.heap.size 5 i0 (.int .u8 0) 1 1 Tryd.underlying41 hi hz0 hz1 hz2 rfl (by decide) _ fl.length (fl.map (.int .u8)) (by rfl) HO2.out A1 b.length c1 (b.map (.int .u8)) (by rfl) HBS.out (by intro u hu; obtain ⟨x, _, rfl⟩ := List.mem_map.1 hu; rfl) (by unfold maxLen; omega) (by omega) HB2.out.size ?_))
          intro v3 w3 hown hgr
          have HO3 := Aside0.mk hown
          have HB3 := Aside0.mk (show Below wo.heap.size wo w3 from HB2.out.grown hgr HB2.out.size (fun k hk => (ow_block HO2.out hk).1))
          clear hown hgr hi hz0 hz1 hz2
          go_wp2_with fail
          go_roundg (gk - 1)
          case measure => have := HI2.out; omega
          case rel =>
            refine ⟨i2 + 1, _, rfl, rfl, ⟨by omega, by omega, by have := HI2.out; omega⟩, ⟨?_⟩, HB3⟩
            rw [show (i2 + 1).toNat = i2.toNat + 1 from by omega, flat_take _ _ _ HBB.out, HFL.out, List.length_append, List.map_append]
            exact HO3.out
        · have HE2 := Aside0.mk (show bss.take i2.toNat = bss by rw [List.take_of_length_le (by have := HL.out; omega)])
          obtain ⟨A3, c3, rfl, _⟩ := ow_slice HO2.out
          go_wp2_with fail
          go_ret
          refine ⟨.slice A3 (bss.take i2.toNat).flatten.length c3, by simp, ?_, HB2.out⟩
          have h := HO2.out
          rw [HE2.out] at h ⊢
          exact Rd.of_own h (by have := HT.out; omega)

end Go.Proofs.YtlgpkbhajloajaaDoor.Fill
/- The contract of block.Bytes. No condition but that api's errors are what their text says. -/
namespace Go.Proofs.YtlgpkbhajloajaaDoor.BlockB
open Go.RowKit Go.Proofs.YtlgpkbhajloajaaDoorW.PrintWords Go.Proofs.YtlgpkbhajloajaaDoorW.PrintLast Go.Proofs.YtlgpkbhajloajaaDoorW.PrintMore
open Go.Proofs.YtlgpkbhajloajaaDoor.See Go.Proofs.YtlgpkbhajloajaaDoor.Mem Go.Proofs.YtlgpkbhajloajaaDoor.Clone Go.Proofs.YtlgpkbhajloajaaDoor.Cell Go.Proofs.YtlgpkbhajloajaaDoor.Page Go.Proofs.YtlgpkbhajloajaaDoor.PageB Go.Proofs.YtlgpkbhajloajaaDoor.PageR Go.Proofs.YtlgpkbhajloajaaDoor.Disk Go.Proofs.YtlgpkbhajloajaaDoor.RecD Go.Proofs.YtlgpkbhajloajaaDoor.Rec Go.Proofs.YtlgpkbhajloajaaDoor.RecC Go.Proofs.YtlgpkbhajloajaaDoor.RecB Go.Proofs.YtlgpkbhajloajaaDoor.Fill
attribute [local go_sem] max2_imax min2_imin max_two min_two
set_option linter.unusedVariables false
set_option linter.unusedSimpArgs false

/-- Records' cells. -/
def recCells (l : List RecV) : List Value := l.flatMap recL

theorem recCells_len (l : List RecV) : (recCells l).length = l.length * 10 := by
  induction l with
  | nil => rfl
  | cons r l ih => unfold recCells at ih ⊢; rw [List.flatMap_cons, List.length_append, ih]; simp [recL]; omega

theorem recCells_at : ∀ (l : List RecV) (i : Nat) (r : RecV) (j : Nat), l[i]? = some r → j < 10 → (recCells l)[i * 10 + j]? = (recL r)[j]?
  | [], i, r, j, h, _ => by simp at h
  | s :: l, 0, r, j, h, hj => by
    simp at h; subst h
    unfold recCells
    rw [List.flatMap_cons, Nat.zero_mul, Nat.zero_add, List.getElem?_append_left (by simp [recL]; omega)]
  | s :: l, i + 1, r, j, h, hj => by
    have := recCells_at l i r j (by simpa using h) hj
    have e : recCells (s :: l) = recL s ++ recCells l := by simp [recCells, List.flatMap_cons]
    rw [e, List.getElem?_append_right (by simp [recL]; omega), show (i + 1) * 10 + j - (recL s).length = i * 10 + j from by simp [recL]; omega]
    exact this

theorem recCells_append (a b : List RecV) : recCells (a ++ b) = recCells a ++ recCells b := by unfold recCells; rw [List.flatMap_append]
theorem recCells_one (l : List RecV) : ∀ u ∈ recCells l, u.oneCell' = true := fun u hu => by
  obtain ⟨r, _, h⟩ := List.mem_flatMap.1 hu
  exact recL_one r u h

/-- Records that are read. -/
def RecsR (w : World) (v : Value) (l : List RecV) : Prop := Rd w 53 10 v l.length (recCells l)
theorem RecsR.below {w w' : World} {v : Value} {l : List RecV} (h : RecsR w v l) (hb : Below w.heap.size w w') : RecsR w' v l := Rd.below h hb

/-- A record's cells, as they are read. -/
theorem RecsR.at {w : World} {A : Option Addr} {n c : Nat} {l : List RecV} (h : RecsR w (.slice A n c) l) {i : Nat} {r : RecV} (hi : l[i]? = some r) :
    ∃ g off, A = some ⟨g, off, none⟩ ∧ w.cell? ⟨g, off + i * 10, none⟩ = some (.int .i64 r.kind) ∧ w.cell? ⟨g, off + i * 10 + 1, none⟩ = some (.int .i64 r.txn) ∧ w.cell? ⟨g, off + i * 10 + 2, none⟩ = some (.int .i64 r.page) ∧ w.cell? ⟨g, off + i * 10 + 3, none⟩ = some (.int .i64 r.prev) ∧ w.cell? ⟨g, off + i * 10 + 4, none⟩ = some (.int .i64 r.next) ∧
      w.cell? ⟨g, off + i * 10 + 5, none⟩ = some (.int .i64 r.key) ∧ w.cell? ⟨g, off + i * 10 + 6, none⟩ = some (.bool r.had) ∧ w.cell? ⟨g, off + i * 10 + 7, none⟩ = some (.bool r.has) ∧ w.cell? ⟨g, off + i * 10 + 8, none⟩ = some (.int .i64 r.old) ∧ w.cell? ⟨g, off + i * 10 + 9, none⟩ = some (.int .i64 r.new) := by
  have hlt := (List.getElem?_eq_some_iff.1 hi).1
  rcases h.2.2 with ⟨hv, h0⟩ | ⟨g, off, cap, cur, fz, hv, hh, hnc, hcm, hsz, htk⟩
  · omega
  · injection hv with h1 h2 h3
    subst h1
    have key : ∀ j u, j < 10 → (recL r)[j]? = some u → w.cell? ⟨g, off + i * 10 + j, none⟩ = some u := fun j u hj hu => by
      have e := recCells_at l i r j hi hj
      rw [hu, ← htk, List.getElem?_take, if_pos (by omega), List.getElem?_drop] at e
      simp only [World.cell?, hh]
      rw [show off + i * 10 + j = off + (i * 10 + j) from by omega]
      simpa using e
    exact ⟨g, off, rfl, key 0 _ (by omega) rfl, key 1 _ (by omega) rfl, key 2 _ (by omega) rfl, key 3 _ (by omega) rfl, key 4 _ (by omega) rfl, key 5 _ (by omega) rfl, key 6 _ (by omega) rfl, key 7 _ (by omega) rfl, key 8 _ (by omega) rfl, key 9 _ (by omega) rfl⟩

set_option maxHeartbeats 1000000 in
set_option maxRecDepth 100000 in
theorem join_calls (A : Option Addr) (n c : Nat) (bss : List (List Int)) (w : World) (hb : BSs w (.slice A n c) n bss) (hB : bss.flatten.length ≤ 90000) (hn : n ≤ 1000) :
    Calls Tryd.prog 82 #[.slice A n c] w fun e w' => ∃ v', e = .returned v' ∧ BS w' v' bss.flatten ∧ Below w.heap.size w w' := by
  have HC := Aside0.mk (concat_calls (.slice A n c) n bss w hb hB hn)
  clear hb hB
  go_enter Tryd.func82, Tryd.ntmps82
  go_wp2_with fail
  refine HC.out.mono ?_
  rintro e w1 ⟨v1, rfl, hv, hb⟩
  have HV := Aside0.mk hv
  have HB := Aside0.mk hb
  obtain ⟨A1, c1, rfl, _⟩ := Rd.form hv
  clear hv hb
  go_wp2_with fail
  go_ret
  exact ⟨.slice A1 bss.flatten.length c1, by simp, HV.out, HB.out⟩

theorem bs_magic {W : World} {b : Nat} {fz : Nat × Nat} (h : W.heap[b]? = some (.cells #[.int .u8 80, .int .u8 72, .int .u8 88, .int .u8 66] 5 fz)) : BS W (.slice (some ⟨b, 0, none⟩) 4 4) [80, 72, 88, 66] :=
  ⟨by simp, by simp, .inr ⟨b, 0, 4, _, _, rfl, h, by simp, by decide, by simp, by simp⟩⟩

theorem bss_two {W : World} {b : Nat} {u v : Value} {x y : List Int} (h : W.heap[b]? = some (.cells #[u, v] 41 (0, 0))) (hx : BS W u x) (hy : BS W v y) : BSs W (.slice (some ⟨b, 0, none⟩) 2 2) 2 [x, y] := by
  refine ⟨rfl, [u, v], ⟨by simp, by simp, .inr ⟨b, 0, 2, _, _, rfl, h, by simp, by decide, by simp, by simp⟩⟩, fun i b' hi => ?_⟩
  match i, hi with
  | 0, hi => simp at hi; subst hi; exact ⟨u, rfl, hx⟩
  | 1, hi => simp at hi; subst hi; exact ⟨v, rfl, hy⟩

theorem magic_fill : fillL [80, 72, 88, 66] (16 : Int).toNat = [80, 72, 88, 66] ++ List.replicate 12 0 := rfl
theorem magic_len : ([80, 72, 88, 66] ++ List.replicate 12 (0 : Int)).length = 16 := rfl
theorem head4_len (e : Int) : (putL ([80, 72, 88, 66] ++ List.replicate 12 0) 4 4 e).length = 16 := by rw [putL_length _ _ _ _ (by rw [magic_len]; omega), magic_len]

/-- What block.Bytes returns. -/
def blockV (epoch : Int) (l : List RecV) : List Int := if (blockE epoch l).isNone then blockBytes epoch l else []

theorem blockE_bad {e : Int} {l : List RecV} (h : blockOk e l = false) : blockE e l = some 1 := by unfold blockE; rw [h]; rfl
theorem blockE_rec {e : Int} {l : List RecV} {i : Nat} {r : RecV} (hi : l[i]? = some r) (h : recOk r = false) : blockE e l = some 1 := by
  unfold blockE
  rw [show l.all recOk = false from by
    rw [List.all_eq_false]
    exact ⟨r, List.mem_of_getElem? hi, by simp [h]⟩]
  simp
theorem blockE_good {e : Int} {l : List RecV} (h : blockOk e l = true) (hr : ∀ r ∈ l, recOk r = true) : blockE e l = none := by
  unfold blockE
  rw [h, List.all_eq_true.2 hr]; rfl

/-- What is written so far. -/
def blockN (epoch : Int) (l : List RecV) (i : Nat) : List Int := blockHead epoch l.length ++ blockBody (l.take i)
theorem blockN_len (e : Int) (l : List RecV) (i : Nat) : (blockN e l i).length ≤ 16 + 40 * l.length := by
  unfold blockN
  rw [List.length_append, blockHead_len, blockBody_len, List.length_take]; omega
theorem blockN_succ (e : Int) (l : List RecV) (i : Nat) (r : RecV) (h : l[i]? = some r) : blockN e l (i + 1) = blockN e l i ++ recBytes r := by
  obtain ⟨hl, he⟩ := List.getElem?_eq_some_iff.1 h
  unfold blockN blockBody
  rw [List.take_succ_eq_append_getElem hl, List.flatMap_append, he, List.append_assoc]
  simp

set_option maxHeartbeats 4000000 in
set_option maxRecDepth 100000 in
theorem bbytes_calls (a : Nat → Addr) (ep : Int) (v : Value) (l : List RecV) (w : World) (hs : Sents w a) (hl : RecsR w v l) :
    Calls Tryd.prog 67 #[.int .i64 ep, v] w fun e w' => ∃ v, e = .returned (.tuple #[v, errv a (blockE ep l)]) ∧ BS w' v (blockV ep l) ∧ Below w.heap.size w w' := by
  have HS := Aside0.mk hs
  have hg1 : w.cell? ⟨0, 0, none⟩ = some (.iface 163 (.pointer (some (a 1)))) := hs.cell 1 (by decide)
  obtain ⟨A, c, rfl, _⟩ := Rd.form hl
  obtain ⟨n, hn⟩ : ∃ n, l.length = n := ⟨_, rfl⟩
  have HN := Aside0.mk hn
  have hn6 : n ≤ 1000000 := by rw [← hn]; exact hl.2.1
  rw [hn] at hl ⊢
  have HL := Aside0.mk hl
  clear hs hl hn
  rcases (show ep < 1 ∨ (1 ≤ ep ∧ 1073741824 < ep) ∨ (1 ≤ ep ∧ ep ≤ 1073741824 ∧ (n : Int) < 1) ∨ (1 ≤ ep ∧ ep ≤ 1073741824 ∧ 1 ≤ (n : Int) ∧ 6 < (n : Int)) ∨ (1 ≤ ep ∧ ep ≤ 1073741824 ∧ 1 ≤ (n : Int) ∧ (n : Int) ≤ 6) by omega) with h | ⟨h1, h2⟩ | ⟨h1, h2, h3⟩ | ⟨h1, h2, h3, h4⟩ | ⟨h1, h2, h3, h4⟩
  · have HE := Aside0.mk (blockE_bad (e := ep) (l := l) (by unfold blockOk inB; rw [HN.out]; simp; omega))
    have q1 : decide (ep < 1) = true := decide_eq_true h
    go_enter Tryd.func67, Tryd.ntmps67
    go_wp2_with fail
    go_region
    all_goals
      go_wp2_with fail
      exact bodyPost_ret (v := .tuple #[.slice none 0 0, .iface 163 (.pointer (some (a 1)))]) (by simp [results, Tryd.results67, go_sem]) rfl ⟨_, by rw [HE.out]; rfl, by unfold blockV; rw [HE.out]; exact BS.nil _, by repeat (first | exact Below.refl _ _ | apply pw_below_drewN | apply below_drew1)⟩
  · have HE := Aside0.mk (blockE_bad (e := ep) (l := l) (by unfold blockOk inB; rw [HN.out]; simp; omega))
    have q1 : decide (ep < 1) = false := decide_eq_false (by omega)
    have q2 : decide (ep > 1073741824) = true := decide_eq_true h2
    go_enter Tryd.func67, Tryd.ntmps67
    go_wp2_with fail
    go_region
    all_goals
      go_wp2_with fail
      exact bodyPost_ret (v := .tuple #[.slice none 0 0, .iface 163 (.pointer (some (a 1)))]) (by simp [results, Tryd.results67, go_sem]) rfl ⟨_, by rw [HE.out]; rfl, by unfold blockV; rw [HE.out]; exact BS.nil _, by repeat (first | exact Below.refl _ _ | apply pw_below_drewN | apply below_drew1)⟩
  · have HE := Aside0.mk (blockE_bad (e := ep) (l := l) (by unfold blockOk inB; rw [HN.out]; simp; omega))
    have q1 : decide (ep < 1) = false := decide_eq_false (by omega)
    have q2 : decide (ep > 1073741824) = false := decide_eq_false (by omega)
    have q3 : n = 0 := by omega
    subst q3
    go_enter Tryd.func67, Tryd.ntmps67
    go_wp2_with fail
    go_region
    all_goals
      go_wp2_with fail
      exact bodyPost_ret (v := .tuple #[.slice none 0 0, .iface 163 (.pointer (some (a 1)))]) (by simp [results, Tryd.results67, go_sem]) rfl ⟨_, by rw [HE.out]; rfl, by unfold blockV; rw [HE.out]; exact BS.nil _, by repeat (first | exact Below.refl _ _ | apply pw_below_drewN | apply below_drew1)⟩
  · have HE := Aside0.mk (blockE_bad (e := ep) (l := l) (by unfold blockOk inB; rw [HN.out]; simp; omega))
    have q1 : decide (ep < 1) = false := decide_eq_false (by omega)
    have q2 : decide (ep > 1073741824) = false := decide_eq_false (by omega)
    go_enter Tryd.func67, Tryd.ntmps67
    go_wp2_with fail
    go_region
    all_goals
      go_wp2_with fail
      exact bodyPost_ret (v := .tuple #[.slice none 0 0, .iface 163 (.pointer (some (a 1)))]) (by simp [results, Tryd.results67, go_sem]) rfl ⟨_, by rw [HE.out]; rfl, by unfold blockV; rw [HE.out]; exact BS.nil _, by repeat (first | exact Below.refl _ _ | apply pw_below_drewN | apply below_drew1)⟩
  · have HOK := Aside0.mk (show blockOk ep l = true by unfold blockOk inB; rw [HN.out]; simp; omega)
    have q1 : decide (ep < 1) = false := decide_eq_false (by omega)
    have q2 : decide (ep > 1073741824) = false := decide_eq_false (by omega)
    have q3 : decide ((n : Int) < 1) = false := decide_eq_false (by omega)
    have q4 : decide (6 < (n : Int)) = false := decide_eq_false (by omega)
    have q5 : decide ((n : Int) > 6) = false := decide_eq_false (by omega)
    have hcv := fun (w : World) (C : Array Value) (n c : Nat) => Lib.run_convert_bytes_const (P := Tryd.prog) w 41 5 C n c Tryd.underlying41 Tryd.underlying5
    clear hg1
    go_enter Tryd.func67, Tryd.ntmps67
    go_wp2_with fail
    have hbm := bs_magic (W := w.alloc (.cells #[.int .u8 80, .int .u8 72, .int .u8 88, .int .u8 66] 5 (4, 5))) (b := w.heap.size) (heap_alloc_new w _)
    refine (fill_calls _ [80, 72, 88, 66] 16 _ hbm (by omega) (by omega)).mono ?_
    rintro e w1 ⟨v1, rfl, hv, hb⟩
    rw [magic_fill] at hv
    obtain ⟨ml, hml⟩ : ∃ ml : List Int, [80, 72, 88, 66] ++ List.replicate 12 0 = ml := ⟨_, rfl⟩
    have hl0 : ml.length = 16 := by rw [← hml]; exact magic_len
    have HML := Aside0.mk hml
    rw [hml] at hv
    have HV := Aside0.mk hv
    have HB := Aside0.mk (below_step (below_alloc (Below.refl w.heap.size w) (.cells #[.int .u8 80, .int .u8 72, .int .u8 88, .int .u8 66] 5 (4, 5))) hb)
    have HL0 := Aside0.mk hl0
    clear hv hb hbm hcv hml hl0
    go_wp2_with fail
    refine (put_calls _ ml 4 4 ep (by omega) (by omega) (by omega) (by rw [HL0.out]; omega) (by omega) _ HV.out).mono ?_
    rintro e w2 ⟨v2, rfl, hv, hb⟩
    replace HV := Aside0.mk hv
    replace HB := Aside0.mk (below_step HB.out hb)
    clear hv hb
    go_wp2_with fail
    refine (put_calls _ _ 8 2 (n : Int) (by omega) (by omega) (by omega) (by rw [← HML.out]; show _ ≤ (((putL _ 4 4 _).length : Nat) : Int); rw [head4_len]; omega) (by omega) _ HV.out).mono ?_
    rintro e w3 ⟨v3, rfl, hv, hb⟩
    replace HV := Aside0.mk (show BS w3 v3 (blockN ep l 0) by
      have := hv
      rw [← HML.out] at this
      unfold blockN blockHead blockBody
      simp only [List.take_zero, List.flatMap_nil, List.append_nil]
      rw [HN.out, PageL.u64_id (n := ep) (by omega) (by omega), PageL.u64_id (n := (n : Int)) (by omega) (by omega)]
      exact this)
    replace HB := Aside0.mk (below_step HB.out hb)
    clear hv hb
    go_wp2_with fail
    go_loopg [6, 42] (n + 1) (fun kq v6 v42 w' => ∃ (i : Int) (v : Value), v6 = v ∧ v42 = .int .i64 i ∧ Aside0 (0 ≤ i ∧ i ≤ n ∧ (kq : Int) = n + 1 - i) ∧ Aside0 (∀ (j : Nat) (r : RecV), (j : Int) < i → l[j]? = some r → recOk r = true) ∧ Aside0 (BS w' v (blockN ep l i.toNat)) ∧ Aside0 (Below w.heap.size w w'))
    case atStart => exact ⟨0, _, rfl, rfl, ⟨by omega, by omega, by omega⟩, ⟨fun j r h => by omega⟩, HV, HB⟩
    case round =>
      clear HV HB
      obtain ⟨i, v, rfl, rfl, HI, HJ, HV, HB⟩ := hrel
      have hi0 : 0 ≤ i := HI.out.1
      by_cases hlt : i < n
      · obtain ⟨r, hr⟩ : ∃ r, l[i.toNat]? = some r := ⟨_, List.getElem?_eq_getElem (by have := HN.out; omega)⟩
        obtain ⟨g, off, rfl, d0, d1, d2, d3, d4, d5, d6, d7, d8, d9⟩ := (HL.out.below HB.out).at hr
        have HRI := Aside0.mk hr
        obtain ⟨k, t, pg, pv, nx, ky, hd, hh, ol, nw⟩ := r
        simp only at d0 d1 d2 d3 d4 d5 d6 d7 d8 d9
        clear hr
        go_wp2_with fail
        refine (rbytes_calls a ⟨k, t, pg, pv, nx, ky, hd, hh, ol, nw⟩ _ (by exact HS.out.below (by repeat (first | exact HB.out | apply below_drew1 | apply below_alloc)))).mono ?_
        rintro e w4 ⟨v4, rfl, hv4, hb4⟩
        have HV4 := Aside0.mk hv4
        replace HV := Aside0.mk (BS.below HV.out (show Below wr.heap.size wr w4 from (by repeat (first | exact Below.refl _ _ | apply below_drew1 | apply below_alloc) : Below wr.heap.size wr (wr.alloc _)).trans (hb4.mono (by simp))))
        replace HB := Aside0.mk (below_step (by repeat (first | exact HB.out | apply below_drew1 | apply below_alloc)) hb4)
        clear hv4 hb4 d0 d1 d2 d3 d4 d5 d6 d7 d8 d9
        cases hok : recOk ⟨k, t, pg, pv, nx, ky, hd, hh, ol, nw⟩ with
        | false =>
          have hce : errv a (recE ⟨k, t, pg, pv, nx, ky, hd, hh, ol, nw⟩) = .iface 163 (.pointer (some (a 1))) := by unfold recE; rw [hok]; rfl
          have HE := Aside0.mk (blockE_rec (e := ep) HRI.out hok)
          rw [hce]
          clear hce hok
          go_wp2_with fail
          exact bodyPost_ret (v := .tuple #[.slice none 0 0, .iface 163 (.pointer (some (a 1)))]) (by simp [results, Tryd.results67, go_sem]) rfl ⟨_, by rw [HE.out]; rfl, by unfold blockV; rw [HE.out]; exact BS.nil _, HB.out⟩
        | true =>
          have hce : errv a (recE ⟨k, t, pg, pv, nx, ky, hd, hh, ol, nw⟩) = .nilIface := by unfold recE; rw [hok]; rfl
          have hbv : recBV ⟨k, t, pg, pv, nx, ky, hd, hh, ol, nw⟩ = recBytes ⟨k, t, pg, pv, nx, ky, hd, hh, ol, nw⟩ := by unfold recBV; rw [hok]; rfl
          have hv4 := HV4.out
          rw [hbv] at hv4
          replace HV4 := Aside0.mk hv4
          have HOKR := Aside0.mk hok
          rw [hce]
          clear hce hok hbv hv4
          obtain ⟨A6, c6, rfl, _⟩ := Rd.form HV.out
          obtain ⟨A4, c4, rfl, _⟩ := Rd.form HV4.out
          go_wp2_with fail
          refine (join_calls (some ⟨w4.heap.size, 0, none⟩) 2 2 [blockN ep l i.toNat, recBytes ⟨k, t, pg, pv, nx, ky, hd, hh, ol, nw⟩] _ (bss_two (b := w4.heap.size) (heap_alloc_new w4 _) (BS.below HV.out (below_alloc (Below.refl _ _) _)) (BS.below HV4.out (below_alloc (Below.refl _ _) _))) (by
            have := blockN_len ep l i.toNat
            have := HN.out
            simp [recBytes_len]; omega) (by omega)).mono ?_
          rintro e w5 ⟨v5, rfl, hv5, hb5⟩
          have HV5 := Aside0.mk (show BS w5 v5 (blockN ep l (i.toNat + 1)) by rw [blockN_succ _ _ _ _ HRI.out]; simpa using hv5)
          have HB5 := Aside0.mk (below_step (below_alloc HB.out _) hb5)
          clear hv5 hb5
          go_wp2_with fail
          go_roundg (gk - 1)
          case measure => have := HI.out; omega
          case rel =>
            refine ⟨i + 1, _, rfl, rfl, ⟨by omega, by omega, by have := HI.out; omega⟩, ⟨fun j r hj hr => ?_⟩, ⟨by rw [show (i + 1).toNat = i.toNat + 1 from by omega]; exact HV5.out⟩, HB5⟩
            rcases (show (j : Int) < i ∨ j = i.toNat by omega) with h | h
            · exact HJ.out j r h hr
            · subst h
              rw [HRI.out] at hr
              obtain rfl := Option.some.inj hr
              exact HOKR.out
      · have HE := Aside0.mk (show blockE ep l = none from blockE_good HOK.out fun r hr => by
          obtain ⟨j, hj, hjr⟩ := List.getElem_of_mem hr
          exact HJ.out j r (by have := HI.out; have := HN.out; omega) (by rw [List.getElem?_eq_getElem hj, hjr]))
        have HV2 := Aside0.mk (show BS wr u6 (blockHead ep l.length ++ blockBody l) by
          have := HV.out
          unfold blockN at this
          rw [List.take_of_length_le (by have := HI.out; have := HN.out; omega)] at this
          exact this)
        go_wp2_with fail
        refine (fill_calls _ _ 256 _ HV2.out (by omega) (by omega)).mono ?_
        rintro e w5 ⟨v5, rfl, hv5, hb5⟩
        have HV5 := Aside0.mk (show BS w5 v5 (blockBytes ep l) from hv5)
        have HB5 := Aside0.mk (below_step HB.out hb5)
        clear hv5 hb5
        go_wp2_with fail
        exact bodyPost_ret (v := .tuple #[v5, .nilIface]) (by simp [results, Tryd.results67, go_sem]) rfl ⟨v5, by rw [HE.out]; rfl, by unfold blockV; rw [HE.out]; exact HV5.out, HB5.out⟩

end Go.Proofs.YtlgpkbhajloajaaDoor.BlockB
