/- The walk of SpacePlays: it answers true. No condition but that api's errors are what their text says. -/
import Derived.Test.YtfnahgmajdjepaaDoorSpaceAny
import Derived.Test.YtfnahgmajdjepaaDoorOpen
namespace Go.Proofs.YtfnahgmajdjepaaDoor.WalkPlays
open Go.RowKit Go.Proofs.YtfnahgmajdjepaaDoorW.PrintWords Go.Proofs.YtfnahgmajdjepaaDoorW.PrintLast Go.Proofs.YtfnahgmajdjepaaDoorW.PrintMore
open Go.Proofs.YtfnahgmajdjepaaDoor.See Go.Proofs.YtfnahgmajdjepaaDoor.Space Go.Proofs.YtfnahgmajdjepaaDoor.First Go.Proofs.YtfnahgmajdjepaaDoor.Any
set_option linter.unusedVariables false
set_option linter.unusedSimpArgs false

/-- A slice of things in memory. -/
def Three (w : World) (A : Option Addr) (len : Nat) (x : Nat → Nat → Int) : Prop :=
  ∀ i, i < len → ∃ ad, A = some ad ∧ w.cell? (ad.add (i * 3)) = some (.int .i64 (x i 0)) ∧ w.cell? ⟨(ad.add (i * 3)).block, (ad.add (i * 3)).off + 1, none⟩ = some (.int .i64 (x i 1)) ∧
    w.cell? ⟨(ad.add (i * 3)).block, (ad.add (i * 3)).off + 2, none⟩ = some (.int .i64 (x i 2))

theorem Three.below {w w1 : World} {A : Option Addr} {len : Nat} {x : Nat → Nat → Int} (h : Three w A len x) (hb : Below w.heap.size w w1) : Three w1 A len x := by
  intro i hi
  obtain ⟨ad, e, h0, h1, h2⟩ := h i hi
  exact ⟨ad, e, (hb.cell (World.block_lt_of_cell? _ _ h0)).trans h0, (hb.cell (World.block_lt_of_cell? _ _ h1)).trans h1, (hb.cell (World.block_lt_of_cell? _ _ h2)).trans h2⟩

set_option maxHeartbeats 4000000 in
set_option maxRecDepth 100000 in
theorem plays_calls (a0 : Int) (A : Option Addr) (len cap : Nat) (x : Nat → Nat → Int) (hlen : len ≤ maxLen) (a : Nat → Addr) (w : World) (hs : Sents w a) (hx : Three w A len x) :
    Calls Tryd.prog 3 #[.int .i64 a0, .slice A len cap] w fun e w' => e = .returned (.bool true) ∧ Below w.heap.size w w' := by
  unfold maxLen at hlen
  have HS := Aside0.mk hs
  have HX := Aside0.mk hx
  clear hs hx
  by_cases h60 : (80 : Int) < (len : Int)
  · go_enter Tryd.func3, Tryd.ntmps3
    go_wp2_with fail
    refine (first_calls a _ HS.out).mono ?_
    rintro e w1 ⟨rfl, hb⟩
    go_wp2_with fail
    go_ret
    exact ⟨rfl, hb⟩
  · go_enter Tryd.func3, Tryd.ntmps3
    go_wp2_with fail
    refine (first_calls a _ HS.out).mono ?_
    rintro e w1 ⟨rfl, hb⟩
    have HB := Aside0.mk hb
    clear hb
    go_wp2_with fail
    refine (new_calls a0 _).mono ?_
    rintro e w2 ⟨rfl, hp, hb⟩
    have HP := Aside0.mk hp
    have hle : w.heap.size ≤ w1.heap.size := HB.out.size
    have hl1 : w1.heap.size < w2.heap.size := hp.lt
    replace HB := Aside0.mk (below_step HB.out hb)
    clear hb hp
    go_wp2_with fail
    refine (rnew_calls a0 _).mono ?_
    rintro e w3 ⟨rfl, hp, hb⟩
    have HR := Aside0.mk hp
    replace HP := Aside0.mk (HP.out.below hb)
    replace HB := Aside0.mk (below_step HB.out hb)
    clear hb hp
    have cb := clampR_bd a0
    generalize clampR a0 = c at *
    have ok0 : Ok c 0 := ⟨cb.1, by omega, by have := cb.2; omega⟩
    have HO := Aside0.mk ok0
    clear ok0
    clear cb
    have c0 := HR.out.c0
    go_wp2_with fail
    go_region_held3 (fun w' => w'.cell? ⟨w2.heap.size, 0, none⟩ = some (.int .i64 c)) (go_keep)
      (first | (go_at_call 10; refine (free_calls _ c 0 _ (by exact HP.out.drew)).mono ?_; rintro e w' ⟨rfl, rfl⟩))
    clear c0
    replace HP := Aside0.mk HP.out.drew
    replace HR := Aside0.mk HR.out.drew
    replace HB := Aside0.mk HB.out.drew
    go_wp2_with fail
    have hle2 : w.heap.size ≤ w2.heap.size := by omega
    have hne : w2.heap.size ≠ w1.heap.size := by omega
    have hne2 : w1.heap.size ≠ w2.heap.size := by omega
    go_loopg [8] (len + 1) (fun kq v8 w' => ∃ (f k : Int) (i : Nat), v8 = .int .i64 (i : Int) ∧ Aside0 (kq + i = len + 1 ∧ i ≤ len) ∧ Aside0 (Ok f k) ∧ Aside0 (SP w' w1.heap.size f k) ∧ Aside0 (SP w' w2.heap.size f k) ∧ Aside0 (Below w.heap.size w w'))
    case atStart => exact ⟨c, 0, 0, rfl, ⟨by omega⟩, HO, HP, HR, HB⟩
    case round =>
      clear HB HP HR HO
      obtain ⟨f, k, i, rfl, HI, HO, HP, HR, HB⟩ := hrel
      by_cases hi : (i : Int) < (len : Int)
      · have hi0 : (0 : Int) ≤ (i : Int) := by omega
        obtain ⟨ad, e, hc0, hc1, hc2⟩ := (HX.out.below HB.out) i (by omega)
        cases e
        obtain ⟨o, ho⟩ : ∃ p, x i 0 = p := ⟨_, rfl⟩
        obtain ⟨p, hp⟩ : ∃ p, x i 1 = p := ⟨_, rfl⟩
        obtain ⟨q, hq⟩ : ∃ p, x i 2 = p := ⟨_, rfl⟩
        have hcells : ∀ W, Below w.heap.size w W → W.cell? ⟨(ad.add (i * 3)).block, (ad.add (i * 3)).off + 1, none⟩ = some (.int .i64 p) ∧ W.cell? ⟨(ad.add (i * 3)).block, (ad.add (i * 3)).off + 2, none⟩ = some (.int .i64 q) := by
          intro W hW
          obtain ⟨ad', e, h0, h1, h2⟩ := (HX.out.below hW) i (by omega)
          cases e
          rw [hp] at h1
          rw [hq] at h2
          exact ⟨h1, h2⟩
        have HC := Aside0.mk hcells
        rw [ho] at hc0
        rw [hp] at hc1
        rw [hq] at hc2
        clear ho hp hq hcells
        obtain ⟨kd, hkd⟩ : ∃ r, o % 5 = r := ⟨_, rfl⟩
        have kd0 : 0 ≤ kd := by omega
        have kd5 : kd < 5 := by omega
        have HKD := Aside0.mk hkd
        clear hkd
        rcases (show kd = 3 ∨ kd = 4 ∨ (kd ≠ 3 ∧ kd ≠ 4) by omega) with rfl | rfl | ⟨hk3, hk4⟩
        · go_wp2_with fail
          refine (num_at _ _ _ (by omega) (by omega) HKD.out _).mono ?_
          rintro e w' ⟨rfl, rfl⟩
          go_wp2_with fail
          go_region_held3 (fun w' => w'.cell? ⟨(ad.add (i * 3)).block, (ad.add (i * 3)).off + 1, none⟩ = some (.int .i64 p) ∧ w'.cell? ⟨(ad.add (i * 3)).block, (ad.add (i * 3)).off + 2, none⟩ = some (.int .i64 q)) (first | exact hk2 | exact hk1 | go_keep)
            (first
              | (go_at_call 12; refine (spend_any _ f k p _ (by exact HP.out.drew) HO.out w.heap.size hle).mono ?_; rintro e w4 ⟨rfl, hp1, hb1, ho1⟩; have hr1 := ho1 _ _ _ hne HR.out.drew; have hB1 := HB.out.drew.trans hb1; have hk1 := HC.out _ hB1; clear hb1 ho1)
              | (go_at_call 13; refine (rspend_any _ f k p _ (by exact hr1) HO.out w.heap.size hle2).mono ?_; rintro e w5 ⟨rfl, hp2, hb2, ho2⟩; have hs2 := ho2 _ _ _ hne2 hp1; have hB2 := hB1.trans hb2; have hk2 := HC.out _ hB2; clear hb2 ho2))
          replace HP := Aside0.mk hs2
          replace HR := Aside0.mk hp2
          replace HB := Aside0.mk hB2
          clear hs2 hp2 hB2 hp1 hr1 hB1 hk1 hk2
          replace HO := Aside0.mk (ok_sp HO.out p)
          obtain ⟨f', hf'⟩ : ∃ f', f = f' := ⟨_, rfl⟩
          obtain ⟨k', hk'⟩ : ∃ k', spK k p = k' := ⟨_, rfl⟩
          rw [hf', hk'] at HP HR HO
          clear hf' hk'
          have cf := HR.out.c0
          have ck := HR.out.c1
          go_wp2_with fail
          go_region_held3 (fun w' => w'.cell? ⟨w2.heap.size, 0, none⟩ = some (.int .i64 f') ∧ w'.cell? ⟨w2.heap.size, 1, none⟩ = some (.int .i64 k')) (go_keep)
            (first | (go_at_call 10; refine (free_calls _ f' k' _ (by exact HP.out.drew)).mono ?_; rintro e w' ⟨rfl, rfl⟩) | (go_at_call 19; refine (kept_calls _ f' k' _ (by exact HP.out.drew)).mono ?_; rintro e w' ⟨rfl, rfl⟩))
          clear cf ck
          go_wp2_with fail
          go_roundg (gk - 1)
          case measure => have := HI.out; omega
          case rel => exact ⟨f', k', i + 1, by simp, ⟨by have := HI.out; omega⟩, HO, ⟨HP.out.drew⟩, ⟨HR.out.drew⟩, ⟨HB.out.drew⟩⟩
        · go_wp2_with fail
          refine (num_at _ _ _ (by omega) (by omega) HKD.out _).mono ?_
          rintro e w' ⟨rfl, rfl⟩
          go_wp2_with fail
          go_region_held3 (fun w' => w'.cell? ⟨(ad.add (i * 3)).block, (ad.add (i * 3)).off + 1, none⟩ = some (.int .i64 p) ∧ w'.cell? ⟨(ad.add (i * 3)).block, (ad.add (i * 3)).off + 2, none⟩ = some (.int .i64 q)) (first | exact hk2 | exact hk1 | go_keep)
            (first
              | (go_at_call 14; refine (let_any _ f k p _ (by exact HP.out.drew) HO.out w.heap.size hle).mono ?_; rintro e w4 ⟨rfl, hp1, hb1, ho1⟩; have hr1 := ho1 _ _ _ hne HR.out.drew; have hB1 := HB.out.drew.trans hb1; have hk1 := HC.out _ hB1; clear hb1 ho1)
              | (go_at_call 15; refine (rlet_any _ f k p _ (by exact hr1) HO.out w.heap.size hle2).mono ?_; rintro e w5 ⟨rfl, hp2, hb2, ho2⟩; have hs2 := ho2 _ _ _ hne2 hp1; have hB2 := hB1.trans hb2; have hk2 := HC.out _ hB2; clear hb2 ho2))
          replace HP := Aside0.mk hs2
          replace HR := Aside0.mk hp2
          replace HB := Aside0.mk hB2
          clear hs2 hp2 hB2 hp1 hr1 hB1 hk1 hk2
          replace HO := Aside0.mk (ok_le HO.out p)
          obtain ⟨f', hf'⟩ : ∃ f', leF f k p = f' := ⟨_, rfl⟩
          obtain ⟨k', hk'⟩ : ∃ k', spK k p = k' := ⟨_, rfl⟩
          rw [hf', hk'] at HP HR HO
          clear hf' hk'
          have cf := HR.out.c0
          have ck := HR.out.c1
          go_wp2_with fail
          go_region_held3 (fun w' => w'.cell? ⟨w2.heap.size, 0, none⟩ = some (.int .i64 f') ∧ w'.cell? ⟨w2.heap.size, 1, none⟩ = some (.int .i64 k')) (go_keep)
            (first | (go_at_call 10; refine (free_calls _ f' k' _ (by exact HP.out.drew)).mono ?_; rintro e w' ⟨rfl, rfl⟩) | (go_at_call 19; refine (kept_calls _ f' k' _ (by exact HP.out.drew)).mono ?_; rintro e w' ⟨rfl, rfl⟩))
          clear cf ck
          go_wp2_with fail
          go_roundg (gk - 1)
          case measure => have := HI.out; omega
          case rel => exact ⟨f', k', i + 1, by simp, ⟨by have := HI.out; omega⟩, HO, ⟨HP.out.drew⟩, ⟨HR.out.drew⟩, ⟨HB.out.drew⟩⟩
        · have b3 : (kd == 3) = false := beq_eq_false_iff_ne.mpr hk3
          have b4 : (kd == 4) = false := beq_eq_false_iff_ne.mpr hk4
          clear hk3 hk4
          go_wp2_with fail
          refine (num_at _ _ _ (by omega) (by omega) HKD.out _).mono ?_
          rintro e w' ⟨rfl, rfl⟩
          go_wp2_with fail
          go_region_held3 (fun w' => w'.cell? ⟨(ad.add (i * 3)).block, (ad.add (i * 3)).off + 1, none⟩ = some (.int .i64 p) ∧ w'.cell? ⟨(ad.add (i * 3)).block, (ad.add (i * 3)).off + 2, none⟩ = some (.int .i64 q)) (first | exact hk3 | exact hk2 | exact hk1 | go_keep)
            (first
              | (go_at_call 17; refine (ask_any a _ f k p q _ (by exact HP.out.drew) (by exact HS.out.below (Below.drew HB.out)) HO.out w.heap.size hle).mono ?_; rintro e w4 ⟨v, rfl, hev, hp1, hb1, ho1⟩; have hr1 := ho1 _ _ _ hne HR.out.drew; have hB1 := HB.out.drew.trans hb1; have hk1 := HC.out _ hB1; clear hb1 ho1)
              | (go_at_call 18; refine (rask_any _ f k p q _ (by exact hr1) HO.out w.heap.size hle2).mono ?_; rintro e w5 ⟨rfl, hp2, hb2, ho2⟩; have hs2 := ho2 _ _ _ hne2 hp1; have hB2 := hB1.trans hb2; have hk2 := HC.out _ hB2; clear hb2 ho2)
              | (go_at_call 16; refine (is_calls a v _ hev _ _ (by exact HS.out.below hB2)).mono ?_; rintro e w6 ⟨rfl, hb3⟩; have hB3 := hB2.trans (Below.mono hb3 hB2.size); have hk3 := HC.out _ hB3; have hs3 := hs2.below hb3; have hr3 := hp2.below hb3; clear hb3))
          replace HP := Aside0.mk hs3
          replace HR := Aside0.mk hr3
          replace HB := Aside0.mk hB3
          clear hs3 hr3 hB3 hs2 hp2 hB2 hp1 hr1 hB1 hk1 hk2 hk3 hev
          replace HO := Aside0.mk (ok_as HO.out p q)
          obtain ⟨f', hf'⟩ : ∃ f', asF f p q = f' := ⟨_, rfl⟩
          obtain ⟨k', hk'⟩ : ∃ k', asK f k p q = k' := ⟨_, rfl⟩
          rw [hf', hk'] at HP HR HO
          clear hf' hk'
          have cf := HR.out.c0
          have ck := HR.out.c1
          go_wp2_with fail
          go_region_held3 (fun w' => w'.cell? ⟨w2.heap.size, 0, none⟩ = some (.int .i64 f') ∧ w'.cell? ⟨w2.heap.size, 1, none⟩ = some (.int .i64 k')) (go_keep)
            (first | (go_at_call 10; refine (free_calls _ f' k' _ (by exact HP.out.drew)).mono ?_; rintro e w' ⟨rfl, rfl⟩) | (go_at_call 19; refine (kept_calls _ f' k' _ (by exact HP.out.drew)).mono ?_; rintro e w' ⟨rfl, rfl⟩))
          clear cf ck
          go_wp2_with fail
          go_roundg (gk - 1)
          case measure => have := HI.out; omega
          case rel => exact ⟨f', k', i + 1, by simp, ⟨by have := HI.out; omega⟩, HO, ⟨HP.out.drew⟩, ⟨HR.out.drew⟩, ⟨HB.out.drew⟩⟩
      · go_wp2_with fail
        go_ret
        exact ⟨by simp, HB.out⟩

theorem plays_nums (a0 : Int) (A : Option Addr) (len cap : Nat) (x : Nat → Nat → Int) (hlen : len ≤ maxLen) (a : Nat → Addr) (w : World) (hs : Sents w a) (hx : Open.Nums w A len 3 x) :
    Calls Tryd.prog 3 #[.int .i64 a0, .slice A len cap] w fun e w1 => e = .returned (.bool true) ∧ Below w.heap.size w w1 := by
  refine plays_calls a0 A len cap x hlen a w hs (fun i hi => ?_)
  obtain ⟨ad, e, h⟩ := hx i hi
  exact ⟨ad, e, by have := h 0 (by omega); simpa [Addr.add] using this, by have := h 1 (by omega); simpa [Addr.add] using this, by have := h 2 (by omega); simpa [Addr.add] using this⟩

end Go.Proofs.YtfnahgmajdjepaaDoor.WalkPlays
