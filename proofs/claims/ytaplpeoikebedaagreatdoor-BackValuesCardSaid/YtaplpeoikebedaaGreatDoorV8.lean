/- Joined texts: Dirty, SysD, Rec, RecC. No condition but what each says. -/
import Derived.Test.YtaplpeoikebedaaGreatDoorV4
import Derived.Test.YtaplpeoikebedaaGreatDoorV7
set_option maxHeartbeats 8000000
set_option maxRecDepth 100000
set_option linter.unusedVariables false
set_option linter.unusedSimpArgs false
namespace Go.Proofs.YtaplpeoikebedaaGreatDoor.Dirty
open Go.RowKit YtaplpeoikebedaaGreatDoorW.PrintWords YtaplpeoikebedaaGreatDoorW.PrintLast YtaplpeoikebedaaGreatDoorW.PrintMore
open See Mem Clone Go.Proofs.YtaplpeoikebedaaGreatDoor.Cell Page
attribute [local go_sem] max2_imax min2_imin max_two min_two
def cmpI (x y : Int) : Int := if x < y then -1 else if y < x then 1 else 0
theorem compare_calls (x y : Int) (w : World) : Calls Tryz.prog 170 #[.int .i64 x, .int .i64 y] w fun e w' => e = .returned (.int .i64 (cmpI x y)) ∧ w = w' := by
  rcases (show (x < y ∧ cmpI x y = -1) ∨ (¬ x < y ∧ y < x ∧ cmpI x y = 1) ∨ (¬ x < y ∧ ¬ y < x ∧ cmpI x y = 0) by unfold cmpI; split <;> (try split) <;> omega) with ⟨h, h2⟩ | ⟨h, h2, h3⟩ | ⟨h, h2, h3⟩
  · rw [h2]; clear h2
    go_enter Tryz.func170, Tryz.ntmps170
    go_wp2
    go_ret
    simp
  · rw [h3]; clear h3
    go_enter Tryz.func170, Tryz.ntmps170
    go_wp2
    go_ret
    simp
  · rw [h3]; clear h3
    go_enter Tryz.func170, Tryz.ntmps170
    go_wp2
    go_ret
    simp
theorem clos_find (pg fr n : Int) (w : World) :
    Calls Tryz.prog 220 #[.agg #[.int .i64 pg, .int .i64 fr], .int .i64 n] w fun e w' => e = .returned (.int .i64 (cmpI pg n)) ∧ Below w.heap.size w w' := by
  go_enter Tryz.func220, Tryz.ntmps220
  go_wp2_with fail
  refine (compare_calls pg n _).mono ?_
  rintro e w' ⟨rfl, rfl⟩
  go_wp2_with fail
  go_ret
  exact ⟨by simp, below_alloc (Below.refl _ _) _⟩
def pos : List (Int × Int) → Int → Nat
  | [], _ => 0
  | d :: ds, n => if d.1 < n then pos ds n + 1 else 0
def has (ds : List (Int × Int)) (n : Int) : Bool := match ds[pos ds n]? with | some d => d.1 == n | none => false
def Rising (ds : List (Int × Int)) : Prop := ds.Pairwise fun a b => a.1 < b.1
theorem pos_le : ∀ (ds : List (Int × Int)) (n : Int), pos ds n ≤ ds.length
  | [], _ => Nat.le_refl _
  | d :: ds, n => by
    unfold pos
    split
    · have := pos_le ds n; simp; omega
    · simp
theorem pos_eq : ∀ (ds : List (Int × Int)) (n : Int) (k : Nat), k ≤ ds.length → (∀ j d, j < k → ds[j]? = some d → d.1 < n) → (∀ d, ds[k]? = some d → ¬ d.1 < n) → pos ds n = k
  | [], n, k, hk, _, _ => by simp at hk; subst hk; rfl
  | d :: ds, n, 0, _, _, h2 => by unfold pos; rw [if_neg (h2 d rfl)]
  | d :: ds, n, k + 1, hk, h1, h2 => by
    unfold pos
    rw [if_pos (h1 0 d (by omega) rfl), pos_eq ds n k (by simpa using hk) (fun j e hj he => h1 (j + 1) e (by omega) (by simpa using he)) (fun e he => h2 e (by simpa using he))]
theorem search_calls (v : Value) (ds : List (Int × Int)) (n : Int) (w : World) (hp : P2 w 288 v ds) (hr : Rising ds) :
    Calls Tryz.prog 219 #[v, .int .i64 n, .func (.func 220) #[] #[]] w fun e w' => e = .returned (.tuple #[.int .i64 (pos ds n : Nat), .bool (has ds n)]) ∧ Below w.heap.size w w' := by
  obtain ⟨A, cap, rfl, _⟩ := ow_slice hp.1
  obtain ⟨l, hl⟩ : ∃ l, ds.length = l := ⟨_, rfl⟩
  have HL := Aside0.mk hl
  have HP := Aside0.mk hp
  have HR := Aside0.mk hr
  have hl5 : l ≤ 100000 := by rw [← hl]; exact hp.2
  rw [hl]
  clear hp hr hl
  go_enter Tryz.func219, Tryz.ntmps219
  go_wp2_with fail
  go_loopg [9, 10] (l + 1) (fun kq v9 v10 w' => ∃ i j : Int, v9 = .int .i64 i ∧ v10 = .int .i64 j ∧ Aside0 (0 ≤ i ∧ i ≤ j ∧ j ≤ l ∧ (kq : Int) = j - i + 1) ∧ Aside0 (∀ (k : Nat) (d : Int × Int), (k : Int) < i → ds[k]? = some d → d.1 < n) ∧ Aside0 (∀ (k : Nat) (d : Int × Int), j ≤ (k : Int) → ds[k]? = some d → ¬ d.1 < n) ∧ Aside0 (Below w.heap.size w w'))
  case atStart => exact ⟨0, l, rfl, rfl, ⟨by omega, by omega, by omega, by omega⟩, ⟨fun k d h => by omega⟩, ⟨fun k d h hd => by have := (List.getElem?_eq_some_iff.1 hd).1; have := HL.out; omega⟩, ⟨Below.refl _ _⟩⟩
  case round =>
    obtain ⟨i, j, rfl, rfl, HI, HA, HZ, HB⟩ := hrel
    have hi0 : 0 ≤ i := HI.out.1
    have hj0 : j ≤ 100000 := by have := HI.out; omega
    by_cases hlt : i < j
    · have hij : 0 ≤ i + j := by omega
      have hij2 : i + j ≤ 200000 := by omega
      obtain ⟨h, hh⟩ : ∃ h, (i + j) / 2 = h := ⟨_, rfl⟩
      have hh0 : 0 ≤ h := by omega
      have hhi : i ≤ h := by omega
      have hhj : h < j := by omega
      have hhl : h < l := by have := HI.out; omega
      have hhb : h ≤ 100000 := by omega
      obtain ⟨⟨pg, fr⟩, hd⟩ : ∃ d, ds[h.toNat]? = some d := ⟨_, List.getElem?_eq_getElem (by have := HL.out; omega)⟩
      obtain ⟨g, rfl⟩ : ∃ g, A = some ⟨g, 0, none⟩ := by
        rcases HP.out.form with ⟨_, h0⟩ | ⟨g, c, hv, _⟩
        · rw [h0] at hd; simp at hd
        · injection hv with h1; exact ⟨g, h1⟩
      have hcl : wr.cell? ⟨g, h.toNat * 2, none⟩ = some (.int .i64 pg) ∧ wr.cell? ⟨g, h.toNat * 2 + 1, none⟩ = some (.int .i64 fr) := by
        rcases (P2.below HP.out HB.out).form with ⟨_, h0⟩ | ⟨g', c, hv, hc, _⟩
        · rw [h0] at hd; simp at hd
        · injection hv with h1; injection h1 with h1; injection h1 with h1; subst h1; exact hc _ _ hd
      obtain ⟨hd0, hd1⟩ := hcl
      have HD := Aside0.mk hd
      have HHH := Aside0.mk (And.intro hhi hhj)
      clear hd hhi hhj
      go_wp2_with fail
      refine (clos_find pg fr n _).mono ?_
      rintro e w1 ⟨rfl, hb⟩
      replace HB := Aside0.mk (below_step HB.out hb)
      clear hb hd0 hd1
      by_cases hc : pg < n
      · have hq : decide (cmpI pg n < 0) = true := by unfold cmpI; rw [if_pos hc]; rfl
        have HC := Aside0.mk hc
        clear hc
        go_wp2_with fail
        go_roundg (gk - (h + 1 - i).toNat)
        case measure => have := HI.out; have := HHH.out; omega
        case rel =>
          refine ⟨h + 1, j, rfl, rfl, ⟨by omega, by have := HHH.out; omega, by have := HI.out; omega, by have := HI.out; have := HHH.out; omega⟩, ⟨fun k d hk hd => ?_⟩, HZ, HB⟩
          rcases (show (k : Int) < h ∨ k = h.toNat by omega) with h1 | h1
          · obtain ⟨hk1, hk2⟩ := List.getElem?_eq_some_iff.1 hd
            obtain ⟨hg1, hg2⟩ := List.getElem?_eq_some_iff.1 HD.out
            have := List.pairwise_iff_getElem.1 HR.out k h.toNat hk1 hg1 (by omega)
            rw [hk2, hg2] at this
            have hc := HC.out
            simp only at this
            omega
          · subst h1
            rw [HD.out] at hd
            injection hd with hd
            subst hd
            exact HC.out
      · have hq : decide (cmpI pg n < 0) = false := by unfold cmpI; rw [if_neg hc]; split <;> rfl
        have HC := Aside0.mk hc
        clear hc
        go_wp2_with fail
        go_roundg (gk - (j - h).toNat)
        case measure => have := HI.out; have := HHH.out; omega
        case rel =>
          refine ⟨i, h, rfl, rfl, ⟨by omega, by have := HHH.out; omega, by omega, by have := HI.out; have := HHH.out; omega⟩, HA, ⟨fun k d hk hd => ?_⟩, HB⟩
          rcases (show h < (k : Int) ∨ k = h.toNat by omega) with h1 | h1
          · obtain ⟨hk1, hk2⟩ := List.getElem?_eq_some_iff.1 hd
            obtain ⟨hg1, hg2⟩ := List.getElem?_eq_some_iff.1 HD.out
            have := List.pairwise_iff_getElem.1 HR.out h.toNat k hg1 hk1 (by omega)
            rw [hk2, hg2] at this
            have hc := HC.out
            simp only at this
            omega
          · subst h1
            rw [HD.out] at hd
            injection hd with hd
            subst hd
            exact HC.out
    · have HIJ := Aside0.mk (show i = j by have := HI.out; omega)
      have HPOS := Aside0.mk (show ((pos ds n : Nat) : Int) = i by
        rw [pos_eq ds n i.toNat (by have := HI.out; have := HL.out; omega) (fun k d hk hd => HA.out k d (by omega) hd) (fun d hd => HZ.out i.toNat d (by have := HIJ.out; omega) hd)]
        omega)
      by_cases hil : i < l
      · obtain ⟨⟨pg, fr⟩, hd⟩ : ∃ d, ds[i.toNat]? = some d := ⟨_, List.getElem?_eq_getElem (by have := HL.out; omega)⟩
        obtain ⟨g, rfl⟩ : ∃ g, A = some ⟨g, 0, none⟩ := by
          rcases HP.out.form with ⟨_, h0⟩ | ⟨g, c, hv, _⟩
          · rw [h0] at hd; simp at hd
          · injection hv with h1; exact ⟨g, h1⟩
        have hcl : wr.cell? ⟨g, i.toNat * 2, none⟩ = some (.int .i64 pg) ∧ wr.cell? ⟨g, i.toNat * 2 + 1, none⟩ = some (.int .i64 fr) := by
          rcases (P2.below HP.out HB.out).form with ⟨_, h0⟩ | ⟨g', c, hv, hc, _⟩
          · rw [h0] at hd; simp at hd
          · injection hv with h1; injection h1 with h1; injection h1 with h1; subst h1; exact hc _ _ hd
        obtain ⟨hd0, hd1⟩ := hcl
        have HHAS := Aside0.mk (show has ds n = (cmpI pg n == 0) by
          unfold has
          rw [show pos ds n = i.toNat from by have := HPOS.out; omega, hd]
          have hz := HZ.out i.toNat _ (by have := HIJ.out; omega) hd
          simp only at hz
          unfold cmpI
          rw [if_neg hz]
          by_cases h : n < pg
          · rw [if_pos h]; simp; omega
          · rw [if_neg h]; simp; omega)
        clear hd
        have hlt2 : decide (i < (l : Int)) = true := decide_eq_true hil
        go_wp2_with fail
        refine (clos_find pg fr n _).mono ?_
        rintro e w1 ⟨rfl, hb⟩
        replace HB := Aside0.mk (below_step HB.out hb)
        clear hb hd0 hd1
        go_wp2_with fail
        exact bodyPost_ret (v := .tuple #[.int .i64 i, .bool (cmpI pg n == 0)]) (by simp [results, Tryz.results219, go_sem]) rfl ⟨by rw [HPOS.out, HHAS.out], HB.out⟩
      · have HHAS := Aside0.mk (show has ds n = false by
          unfold has
          rw [show pos ds n = i.toNat from by have := HPOS.out; omega, List.getElem?_eq_none (by have := HL.out; omega)])
        go_wp2_with fail
        exact bodyPost_ret (v := .tuple #[.int .i64 i, .bool false]) (by simp [results, Tryz.results219, go_sem]) rfl ⟨by rw [HPOS.out, HHAS.out], HB.out⟩
theorem find_calls (p : Nat) (v : Value) (ds : List (Int × Int)) (n : Int) (w : World) (hp : P2 w 288 v ds) (hr : Rising ds) (hc : w.cell? ⟨p, 0, none⟩ = some v) :
    Calls Tryz.prog 199 #[.pointer (some ⟨p, 0, none⟩), .int .i64 n] w fun e w' => e = .returned (.tuple #[.int .i64 (pos ds n : Nat), .bool (has ds n)]) ∧ Below w.heap.size w w' := by
  have HP := Aside0.mk hp
  have HR := Aside0.mk hr
  clear hp hr
  go_enter Tryz.func199, Tryz.ntmps199
  go_wp2_with fail
  refine (search_calls v ds n _ HP.out HR.out).mono ?_
  rintro e w1 ⟨rfl, hb⟩
  have HB := Aside0.mk hb
  clear hb
  go_wp2_with fail
  exact bodyPost_ret (v := .tuple #[.int .i64 (pos ds n : Nat), .bool (has ds n)]) (by simp [results, Tryz.results199, go_sem]) rfl ⟨rfl, HB.out⟩
def fromOf (ds : List (Int × Int)) (n : Int) : Int := if has ds n then (ds[pos ds n]?.map (·.2)).getD 0 else 0
theorem from_calls (p : Nat) (v : Value) (ds : List (Int × Int)) (n : Int) (w : World) (hp : P2 w 288 v ds) (hr : Rising ds) (hc : w.cell? ⟨p, 0, none⟩ = some v) :
    Calls Tryz.prog 151 #[.pointer (some ⟨p, 0, none⟩), .int .i64 n] w fun e w' => e = .returned (.tuple #[.int .i64 (fromOf ds n), .bool (has ds n)]) ∧ Below w.heap.size w w' := by
  have HP := Aside0.mk hp
  have HC := Aside0.mk hc
  have HFIND := Aside0.mk (find_calls p v ds n w hp hr hc)
  clear hp hr hc
  obtain ⟨k, hk⟩ : ∃ k : Int, ((pos ds n : Nat) : Int) = k := ⟨_, rfl⟩
  cases hh : has ds n with
  | false =>
    have HF := Aside0.mk (show fromOf ds n = 0 by unfold fromOf; rw [hh]; rfl)
    have HFD := HFIND.out
    rw [hh, hk] at HFD
    have HFD' := Aside0.mk HFD
    clear HFD hh hk
    go_enter Tryz.func151, Tryz.ntmps151
    go_wp2_with fail
    refine HFD'.out.mono ?_
    rintro e w1 ⟨rfl, hb⟩
    have HB := Aside0.mk hb
    clear hb
    go_wp2_with fail
    exact bodyPost_ret (v := .tuple #[.int .i64 0, .bool false]) (by simp [results, Tryz.results151, go_sem]) rfl ⟨by rw [HF.out], HB.out⟩
  | true =>
    obtain ⟨⟨pg, fr⟩, hd⟩ : ∃ d, ds[pos ds n]? = some d := by
      unfold has at hh
      cases hq : ds[pos ds n]? with
      | none => rw [hq] at hh; cases hh
      | some d => exact ⟨d, rfl⟩
    have HF := Aside0.mk (show fromOf ds n = fr by unfold fromOf; rw [hh, hd]; rfl)
    have HFD := HFIND.out
    rw [hh, hk] at HFD
    have HFD' := Aside0.mk HFD
    have hlt := (List.getElem?_eq_some_iff.1 hd).1
    have hk0 : 0 ≤ k := by omega
    have hkl : k < (ds.length : Int) := by omega
    have hkn : k.toNat = pos ds n := by omega
    have HD := Aside0.mk (show ds[k.toNat]? = some (pg, fr) by rw [hkn]; exact hd)
    clear HFD hh hk hd hlt hkn
    go_enter Tryz.func151, Tryz.ntmps151
    go_wp2_with fail
    refine HFD'.out.mono ?_
    rintro e w1 ⟨rfl, hb⟩
    have HB := Aside0.mk hb
    rcases (P2.below HP.out hb).form with ⟨_, h0⟩ | ⟨g, c, hv, hcl, _⟩
    · rw [h0] at hkl; simp at hkl; omega
    · subst hv
      obtain ⟨hc0, hc1⟩ := hcl _ _ HD.out
      have hcv := pw_cell_below hb HC.out
      clear hb hcl
      go_wp2_with fail
      exact bodyPost_ret (v := .tuple #[.int .i64 fr, .bool true]) (by simp [results, Tryz.results151, go_sem]) rfl ⟨by rw [HF.out], HB.out⟩
end Go.Proofs.YtaplpeoikebedaaGreatDoor.Dirty
namespace Go.Proofs.YtaplpeoikebedaaGreatDoor.SysD
open Go.RowKit See Mem Clone Go.Proofs.YtaplpeoikebedaaGreatDoor.Cell Page PageB PageR Disk DiskN DiskW PageL RecD Dirty
def addT (ds : List (Int × Int)) (n f : Int) : List (Int × Int) := if has ds n then ds else ds.take (pos ds n) ++ (n, f) :: ds.drop (pos ds n)
def dropT (ds : List (Int × Int)) (n : Int) : List (Int × Int) := if has ds n then ds.eraseIdx (pos ds n) else ds
structure Fp where
  n : Int
  lsn : Int
  es : List (Int × Int)
def findP (fs : List Fp) (n : Int) : Option Fp := fs.find? fun f => decide (f.n = n)
structure PSys where
  d : Dsk
  l : Lg
  t : List (Int × Int)
  frames : Int
  here : List Fp
def flushS (S : PSys) (n : Int) : PSys × Option Nat :=
  match findP S.here n with
  | none => (S, none)
  | some f =>
    if has S.t n = false then (S, none)
    else
      let q := if S.l.doneN < f.lsn then lflush S.l S.d else (S.l, S.d, none)
      match q.2.2 with
      | some e => ({ S with l := q.1, d := q.2.1 }, some e)
      | none =>
        match writeE q.2.1 n (pageBytes f.lsn f.es) with
        | some e => ({ S with l := q.1, d := writeD q.2.1 n (pageBytes f.lsn f.es) }, some e)
        | none => ({ S with l := q.1, d := writeD q.2.1 n (pageBytes f.lsn f.es), t := dropT S.t n }, none)
def evictK (S : PSys) (hint : Int) : Nat := (max hint 0).toNat % S.here.length
def evictS (S : PSys) (hint : Int) : PSys × Option Nat :=
  match S.here[evictK S hint]? with
  | none => (S, none)
  | some f =>
    match flushS S f.n with
    | (S', some e) => (S', some e)
    | (S', none) => ({ S' with here := S'.here.eraseIdx (evictK S hint) }, none)
inductive Flt where
  | fine
  | bare (k : Nat)
  | at (pos : Int) (k : Nat)
def Flt.of : Option Nat → Flt
  | none => .fine
  | some k => .bare k
def getS (S : PSys) (n hint : Int) : PSys × (Int × List (Int × Int)) × Flt :=
  match findP S.here n with
  | some f => (S, (f.lsn, f.es), .fine)
  | none =>
    if n < 1 then (S, (0, []), .bare 1)
    else
      let q := if S.frames ≤ S.here.length then evictS S hint else (S, none)
      match q.2 with
      | some e => (q.1, (0, []), .bare e)
      | none =>
        match readE q.1.d n with
        | some e => (q.1, (0, []), .bare e)
        | none =>
          match readPage (readV q.1.d n) with
          | none => (q.1, (0, []), .at n 6)
          | some g => ({ q.1 with here := q.1.here ++ [⟨n, g.1, g.2⟩] }, g, .fine)
def setS (S : PSys) (n lsn : Int) (es : List (Int × Int)) : PSys × Option Nat :=
  match findP S.here n with
  | none => (S, some 1)
  | some f =>
    if pageOk lsn es then ({ S with here := S.here.map fun g => if g.n = n then ⟨n, lsn, es⟩ else g, t := addT S.t n lsn }, none)
    else (S, some 1)
end Go.Proofs.YtaplpeoikebedaaGreatDoor.SysD
namespace Go.Proofs.YtaplpeoikebedaaGreatDoor.Rec
open Go.RowKit YtaplpeoikebedaaGreatDoorW.PrintWords YtaplpeoikebedaaGreatDoorW.PrintLast YtaplpeoikebedaaGreatDoorW.PrintMore
open See Mem Clone Go.Proofs.YtaplpeoikebedaaGreatDoor.Cell Page PageB PageR Disk RecD
attribute [local go_sem] max2_imax min2_imin max_two min_two
theorem in_calls (n lo hi : Int) (b : Bool) (hb : inB n lo hi = b) (w : World) :
    Calls Tryz.prog 163 #[.int .i64 n, .int .i64 lo, .int .i64 hi] w fun e w' => e = .returned (.bool b) ∧ w = w' := by
  subst hb
  by_cases h1 : lo ≤ n
  · have q1 : decide (n ≥ lo) = true := decide_eq_true h1
    have HR := Aside0.mk (show inB n lo hi = decide (n ≤ hi) by unfold inB; rw [decide_eq_true h1]; rfl)
    clear h1
    go_enter Tryz.func163, Tryz.ntmps163
    go_wp2
    go_ret
    exact ⟨by simp [HR.out], rfl⟩
  · have q1 : decide (n ≥ lo) = false := decide_eq_false h1
    have HR := Aside0.mk (show inB n lo hi = false by unfold inB; rw [decide_eq_false h1]; rfl)
    clear h1
    go_enter Tryz.func163, Tryz.ntmps163
    go_wp2
    go_ret
    exact ⟨by simp [HR.out], rfl⟩
abbrev recV (r : RecV) : Value := .agg #[.int .i64 r.kind, .int .i64 r.txn, .int .i64 r.page, .int .i64 r.prev, .int .i64 r.next, .int .i64 r.key, .bool r.had, .bool r.has, .int .i64 r.old, .int .i64 r.new]
theorem prev_calls (r : RecV) (b : Bool) (hb : prevOk r = b) (w : World) :
    Calls Tryz.prog 164 #[recV r] w fun e w' => e = .returned (.bool b) ∧ Below w.heap.size w w' := by
  obtain ⟨k, t, pg, pv, nx, ky, hd, hs, ol, nw⟩ := r
  have HBB := Aside0.mk hb
  clear hb
  rcases (show k = 1 ∨ k = 7 ∨ k = 10 ∨ k = 9 ∨ (k ≠ 1 ∧ k ≠ 7 ∧ k ≠ 10 ∧ k ≠ 9) by omega) with h | h | h | h | ⟨h1, h2, h3, h4⟩
  · subst h
    go_enter Tryz.func164, Tryz.ntmps164
    go_wp2
    go_ret
    exact ⟨by simp; rw [← HBB.out]; simp [prevOk], below_alloc (Below.refl _ _) _⟩
  · subst h
    go_enter Tryz.func164, Tryz.ntmps164
    go_wp2
    go_ret
    exact ⟨by simp; rw [← HBB.out]; simp [prevOk], below_alloc (Below.refl _ _) _⟩
  · subst h
    go_enter Tryz.func164, Tryz.ntmps164
    go_wp2
    go_ret
    exact ⟨by simp; rw [← HBB.out]; simp [prevOk], below_alloc (Below.refl _ _) _⟩
  · subst h
    go_enter Tryz.func164, Tryz.ntmps164
    go_wp2_with fail
    refine (in_calls _ _ _ _ rfl _).mono ?_
    rintro e w' ⟨rfl, rfl⟩
    go_wp2_with fail
    go_ret
    exact ⟨by simp; rw [← HBB.out]; simp [prevOk], below_alloc (Below.refl _ _) _⟩
  · have q1 : (k == 1) = false := by simp [h1]
    have q2 : (k == 7) = false := by simp [h2]
    have q3 : (k == 10) = false := by simp [h3]
    have q4 : (k == 9) = false := by simp [h4]
    have HH := Aside0.mk (And.intro h1 (And.intro h2 (And.intro h3 h4)))
    clear h1 h2 h3 h4
    go_enter Tryz.func164, Tryz.ntmps164
    go_wp2_with fail
    refine (in_calls _ _ _ _ rfl _).mono ?_
    rintro e w' ⟨rfl, rfl⟩
    go_wp2_with fail
    go_ret
    obtain ⟨h1, h2, h3, h4⟩ := HH.out
    exact ⟨by simp; rw [← HBB.out]; simp [prevOk, h1, h2, h3, h4], below_alloc (Below.refl _ _) _⟩
theorem next_calls (r : RecV) (b : Bool) (hb : nextOk r = b) (w : World) :
    Calls Tryz.prog 165 #[recV r] w fun e w' => e = .returned (.bool b) ∧ Below w.heap.size w w' := by
  obtain ⟨k, t, pg, pv, nx, ky, hd, hs, ol, nw⟩ := r
  have HBB := Aside0.mk hb
  clear hb
  rcases (show k = 3 ∨ k = 8 ∨ k = 10 ∨ (k ≠ 3 ∧ k ≠ 8 ∧ k ≠ 10) by omega) with h | h | h | ⟨h1, h2, h3⟩
  · subst h
    go_enter Tryz.func165, Tryz.ntmps165
    go_wp2_with fail
    refine (in_calls _ _ _ _ rfl _).mono ?_
    rintro e w' ⟨rfl, rfl⟩
    go_wp2_with fail
    go_ret
    exact ⟨by simp; rw [← HBB.out]; simp [nextOk], below_alloc (Below.refl _ _) _⟩
  · subst h
    go_enter Tryz.func165, Tryz.ntmps165
    go_wp2_with fail
    refine (in_calls _ _ _ _ rfl _).mono ?_
    rintro e w' ⟨rfl, rfl⟩
    go_wp2_with fail
    go_ret
    exact ⟨by simp; rw [← HBB.out]; simp [nextOk], below_alloc (Below.refl _ _) _⟩
  · subst h
    go_enter Tryz.func165, Tryz.ntmps165
    go_wp2_with fail
    refine (in_calls _ _ _ _ rfl _).mono ?_
    rintro e w' ⟨rfl, rfl⟩
    go_wp2_with fail
    go_ret
    exact ⟨by simp; rw [← HBB.out]; simp [nextOk], below_alloc (Below.refl _ _) _⟩
  · have q1 : (k == 3) = false := by simp [h1]
    have q2 : (k == 8) = false := by simp [h2]
    have q3 : (k == 10) = false := by simp [h3]
    have HH := Aside0.mk (And.intro h1 (And.intro h2 h3))
    clear h1 h2 h3
    go_enter Tryz.func165, Tryz.ntmps165
    go_wp2_with fail
    go_ret
    obtain ⟨h1, h2, h3⟩ := HH.out
    exact ⟨by simp; rw [← HBB.out]; simp [nextOk, h1, h2, h3], below_alloc (Below.refl _ _) _⟩
theorem key_calls (r : RecV) (b : Bool) (hb : rkeyOk r = b) (w : World) :
    Calls Tryz.prog 166 #[recV r] w fun e w' => e = .returned (.bool b) ∧ Below w.heap.size w w' := by
  obtain ⟨k, t, pg, pv, nx, ky, hd, hs, ol, nw⟩ := r
  have HBB := Aside0.mk hb
  clear hb
  rcases (show k = 2 ∨ k = 3 ∨ k = 8 ∨ (k ≠ 2 ∧ k ≠ 3 ∧ k ≠ 8) by omega) with h | h | h | ⟨h1, h2, h3⟩
  · subst h
    go_enter Tryz.func166, Tryz.ntmps166
    go_wp2_with fail
    refine (in_calls _ _ _ _ rfl _).mono ?_
    rintro e w' ⟨rfl, rfl⟩
    go_wp2_with fail
    go_ret
    exact ⟨by simp; rw [← HBB.out]; simp [rkeyOk], below_alloc (Below.refl _ _) _⟩
  · subst h
    go_enter Tryz.func166, Tryz.ntmps166
    go_wp2_with fail
    refine (in_calls _ _ _ _ rfl _).mono ?_
    rintro e w' ⟨rfl, rfl⟩
    go_wp2_with fail
    go_ret
    exact ⟨by simp; rw [← HBB.out]; simp [rkeyOk], below_alloc (Below.refl _ _) _⟩
  · subst h
    go_enter Tryz.func166, Tryz.ntmps166
    go_wp2_with fail
    refine (in_calls _ _ _ _ rfl _).mono ?_
    rintro e w' ⟨rfl, rfl⟩
    go_wp2_with fail
    go_ret
    exact ⟨by simp; rw [← HBB.out]; simp [rkeyOk], below_alloc (Below.refl _ _) _⟩
  · have q1 : (k == 2) = false := by simp [h1]
    have q2 : (k == 3) = false := by simp [h2]
    have q3 : (k == 8) = false := by simp [h3]
    have HH := Aside0.mk (And.intro h1 (And.intro h2 h3))
    clear h1 h2 h3
    go_enter Tryz.func166, Tryz.ntmps166
    go_wp2_with fail
    go_ret
    obtain ⟨h1, h2, h3⟩ := HH.out
    exact ⟨by simp; rw [← HBB.out]; simp [rkeyOk, h1, h2, h3], below_alloc (Below.refl _ _) _⟩
theorem valsOk_bad {r : RecV} (h : (r.has = false ∧ r.new ≠ 0) ∨ (r.had = false ∧ r.old ≠ 0)) : valsOk r = false := by unfold valsOk; rw [if_pos h]
theorem values_calls (r : RecV) (b : Bool) (hb : valsOk r = b) (w : World) :
    Calls Tryz.prog 167 #[recV r] w fun e w' => e = .returned (.bool b) ∧ Below w.heap.size w w' := by
  obtain ⟨k, t, pg, pv, nx, ky, hd, hs, ol, nw⟩ := r
  have HBB := Aside0.mk hb
  clear hb
  rcases (show (hs = false ∧ nw ≠ 0) ∨ (hs = true ∧ hd = false ∧ ol ≠ 0) ∨ ((hs = false ∧ nw = 0) ∧ hd = false ∧ ol ≠ 0) ∨ ((hs = true ∨ (hs = false ∧ nw = 0)) ∧ (hd = true ∨ (hd = false ∧ ol = 0))) by
    cases hs <;> cases hd <;> simp <;> omega) with ⟨rfl, h⟩ | ⟨rfl, rfl, h⟩ | ⟨⟨rfl, rfl⟩, rfl, h⟩ | ⟨h1, h2⟩
  · have q1 : (nw != 0) = true := by simp [h]
    have HH := Aside0.mk h
    clear h
    go_enter Tryz.func167, Tryz.ntmps167
    go_wp2
    go_ret
    exact ⟨by simp; rw [← HBB.out, valsOk_bad (.inl ⟨rfl, HH.out⟩)], below_alloc (Below.refl _ _) _⟩
  · have q1 : (ol != 0) = true := by simp [h]
    have HH := Aside0.mk h
    clear h
    go_enter Tryz.func167, Tryz.ntmps167
    go_wp2
    go_ret
    exact ⟨by simp; rw [← HBB.out, valsOk_bad (.inr ⟨rfl, HH.out⟩)], below_alloc (Below.refl _ _) _⟩
  · have q1 : (ol != 0) = true := by simp [h]
    have HH := Aside0.mk h
    clear h
    go_enter Tryz.func167, Tryz.ntmps167
    go_wp2
    go_ret
    exact ⟨by simp; rw [← HBB.out, valsOk_bad (.inr ⟨rfl, HH.out⟩)], below_alloc (Below.refl _ _) _⟩
  · rcases h1 with rfl | ⟨rfl, rfl⟩ <;> rcases h2 with rfl | ⟨rfl, rfl⟩
    all_goals
      rcases (show k = 2 ∨ k = 3 ∨ (k ≠ 2 ∧ k ≠ 3) by omega) with h | h | ⟨h1, h2⟩
      · subst h
        go_enter Tryz.func167, Tryz.ntmps167
        go_wp2
        go_ret
        exact ⟨by simp; rw [← HBB.out]; simp [valsOk], below_alloc (Below.refl _ _) _⟩
      · subst h
        first
          | (rcases (show ol < 1 ∨ 1 ≤ ol by omega) with ho | ho
             · have HO := Aside0.mk ho
               have q3 : decide (ol ≥ 1) = false := decide_eq_false (by omega)
               clear ho
               go_enter Tryz.func167, Tryz.ntmps167
               go_wp2_with fail
               go_ret
               exact ⟨by have := HO.out; simp; rw [← HBB.out]; simp [valsOk]; try omega, below_alloc (Below.refl _ _) _⟩
             · have HO := Aside0.mk ho
               have q3 : decide (ol ≥ 1) = true := decide_eq_true (by omega)
               clear ho
               go_enter Tryz.func167, Tryz.ntmps167
               go_wp2_with fail
               go_ret
               exact ⟨by have := HO.out; simp; rw [← HBB.out]; simp [valsOk]; try omega, below_alloc (Below.refl _ _) _⟩)
          | (go_enter Tryz.func167, Tryz.ntmps167
             go_wp2_with fail
             go_ret
             exact ⟨by simp; rw [← HBB.out]; simp [valsOk], below_alloc (Below.refl _ _) _⟩)
      · have q3 : (k == 2) = false := by simp [h1]
        have q4 : (k == 3) = false := by simp [h2]
        have HH := Aside0.mk (And.intro h1 h2)
        clear h1 h2
        go_enter Tryz.func167, Tryz.ntmps167
        go_wp2
        go_ret
        obtain ⟨h1, h2⟩ := HH.out
        exact ⟨by simp; rw [← HBB.out]; simp [valsOk, h1, h2], below_alloc (Below.refl _ _) _⟩
end Go.Proofs.YtaplpeoikebedaaGreatDoor.Rec
namespace Go.Proofs.YtaplpeoikebedaaGreatDoor.RecC
open Go.RowKit YtaplpeoikebedaaGreatDoorW.PrintWords YtaplpeoikebedaaGreatDoorW.PrintLast YtaplpeoikebedaaGreatDoorW.PrintMore
open See Mem Clone Go.Proofs.YtaplpeoikebedaaGreatDoor.Cell Page PageB PageR Disk RecD Rec
attribute [local go_sem] max2_imax min2_imin max_two min_two
theorem tm_t (r : RecV) (h : inB r.kind 1 6 = true) : txnMax r = 60000 := by
  unfold inB at h; simp at h
  unfold txnMax; rw [if_pos (.inl h)]
theorem tm_f (r : RecV) (h : inB r.kind 1 6 = false) : txnMax r = if (r.kind == 8) = true then 60000 else 0 := by
  have h1 : ¬ (1 ≤ r.kind ∧ r.kind ≤ 6) := by
    unfold inB at h; simp at h; omega
  unfold txnMax
  by_cases h8 : r.kind = 8
  · simp [h8]
  · rw [if_neg (by
      rintro (h | h)
      · exact h1 h
      · exact h8 h)]
    simp [h8]
theorem pm_t (r : RecV) (h : r.kind = 2 ∨ r.kind = 3 ∨ r.kind = 9) : pageMax r = 32 := by unfold pageMax; rw [if_pos h]
theorem pm_f (r : RecV) (h1 : r.kind ≠ 2) (h2 : r.kind ≠ 3) (h3 : r.kind ≠ 9) : pageMax r = 0 := by
  unfold pageMax; rw [if_neg (by
    rintro (h | h | h)
    · exact h1 h
    · exact h2 h
    · exact h3 h)]
theorem recOk_of {r : RecV} {b1 b2 b3 b4 b5 b6 b7 : Bool} (h1 : inB r.kind 1 10 = b1) (h2 : inB r.txn (imin (txnMax r) 1) (txnMax r) = b2) (h3 : inB r.page (imin (pageMax r) 1) (pageMax r) = b3) (h4 : prevOk r = b4) (h5 : nextOk r = b5) (h6 : rkeyOk r = b6) (h7 : valsOk r = b7) :
    recOk r = (b1 && b2 && b3 && b4 && b5 && b6 && b7) := by
  unfold recOk
  rw [← imin_eq, ← imin_eq, h1, h2, h3, h4, h5, h6, h7]
theorem check_calls (a : Nat → Addr) (r : RecV) (w : World) (hs : Sents w a) :
    Calls Tryz.prog 115 #[recV r] w fun e w' => e = .returned (errv a (recE r)) ∧ Below w.heap.size w w' := by
  obtain ⟨b1, h1⟩ : ∃ b, inB r.kind 1 10 = b := ⟨_, rfl⟩
  obtain ⟨b2, h2⟩ : ∃ b, inB r.txn (imin (txnMax r) 1) (txnMax r) = b := ⟨_, rfl⟩
  obtain ⟨b3, h3⟩ : ∃ b, inB r.page (imin (pageMax r) 1) (pageMax r) = b := ⟨_, rfl⟩
  obtain ⟨b4, h4⟩ : ∃ b, prevOk r = b := ⟨_, rfl⟩
  obtain ⟨b5, h5⟩ : ∃ b, nextOk r = b := ⟨_, rfl⟩
  obtain ⟨b6, h6⟩ : ∃ b, rkeyOk r = b := ⟨_, rfl⟩
  obtain ⟨b7, h7⟩ : ∃ b, valsOk r = b := ⟨_, rfl⟩
  have HR := Aside0.mk (recOk_of h1 h2 h3 h4 h5 h6 h7)
  obtain ⟨tm, htm⟩ : ∃ x, txnMax r = x := ⟨_, rfl⟩
  obtain ⟨pm, hpm⟩ : ∃ x, pageMax r = x := ⟨_, rfl⟩
  rw [htm] at h2
  rw [hpm] at h3
  have H1 := Aside0.mk h1
  have H2 := Aside0.mk h2
  have H3 := Aside0.mk h3
  have H4 := Aside0.mk h4
  have H5 := Aside0.mk h5
  have H6 := Aside0.mk h6
  have H7 := Aside0.mk h7
  have HT := Aside0.mk htm
  have HP := Aside0.mk hpm
  have HS := Aside0.mk hs
  have hg1 : w.cell? ⟨6, 0, none⟩ = some (.iface 333 (.pointer (some (a 1)))) := hs.cell 1 (by decide)
  have hlt1 : 6 < w.heap.size := World.block_lt_of_cell? _ _ hg1
  clear h1 h2 h3 h4 h5 h6 h7 htm hpm hs
  obtain ⟨k, t, pg, pv, nx, ky, hd, hh, ol, nw⟩ := r
  obtain ⟨c1, hc1⟩ : ∃ b, inB k 1 6 = b := ⟨_, rfl⟩
  have HC1 := Aside0.mk hc1
  clear hc1
  go_enter Tryz.func115, Tryz.ntmps115
  go_upto_region 2 with fail
  go_cut [12] (fun s12 wx => ∃ bt : Bool, s12 = .bool bt ∧ Aside0 ((if bt then (60000 : Int) else 0) = tm) ∧ wx = (w.alloc (.cells #[.int .i64 k, .int .i64 t, .int .i64 pg, .int .i64 pv, .int .i64 nx, .int .i64 ky, .bool hd, .bool hh, .int .i64 ol, .int .i64 nw] 46)))
  case first =>
    go_wp2_with fail
    refine (in_calls _ _ _ _ HC1.out _).mono ?_
    rintro e w' ⟨rfl, rfl⟩
    cases c1 with
    | true =>
      go_wp2_with fail
      go_meet
      exact ⟨true, rfl, ⟨by rw [← HT.out, tm_t _ HC1.out]; rfl⟩, rfl⟩
    | false =>
      go_wp2_with fail
      go_meet
      exact ⟨_, rfl, ⟨by rw [← HT.out, tm_f _ HC1.out]⟩, rfl⟩
  case rest =>
  obtain ⟨bt, rfl, HBT, rfl⟩ := hcut
  go_upto_if 12 with fail
  go_cut [3] (fun s3 wx => s3 = .int .i64 tm ∧ wx = (w.alloc (.cells #[.int .i64 k, .int .i64 t, .int .i64 pg, .int .i64 pv, .int .i64 nx, .int .i64 ky, .bool hd, .bool hh, .int .i64 ol, .int .i64 nw] 46)))
  case first =>
    have := HBT.out
    cases bt with
    | true => subst this; go_wp2_with fail; go_meet; exact ⟨rfl, rfl⟩
    | false => subst this; go_wp2_with fail; go_meet; exact ⟨rfl, rfl⟩
  case rest =>
  obtain ⟨rfl, rfl⟩ := hcut
  go_upto_region 4 with fail
  go_cut [25] (fun s25 wx => ∃ bt : Bool, s25 = .bool bt ∧ Aside0 ((if bt then (32 : Int) else 0) = pm) ∧ wx = (w.alloc (.cells #[.int .i64 k, .int .i64 t, .int .i64 pg, .int .i64 pv, .int .i64 nx, .int .i64 ky, .bool hd, .bool hh, .int .i64 ol, .int .i64 nw] 46)))
  case first =>
    rcases (show k = 2 ∨ k = 3 ∨ k = 9 ∨ (k ≠ 2 ∧ k ≠ 3 ∧ k ≠ 9) by omega) with h | h | h | ⟨h1, h2, h3⟩
    · subst h
      go_wp2_with fail
      go_meet
      exact ⟨true, rfl, ⟨by rw [← HP.out, pm_t _ (.inl rfl)]; rfl⟩, rfl⟩
    · subst h
      go_wp2_with fail
      go_meet
      exact ⟨true, rfl, ⟨by rw [← HP.out, pm_t _ (.inr (.inl rfl))]; rfl⟩, rfl⟩
    · subst h
      go_wp2_with fail
      go_meet
      exact ⟨true, rfl, ⟨by rw [← HP.out, pm_t _ (.inr (.inr rfl))]; rfl⟩, rfl⟩
    · have q1 : (k == 2) = false := by simp [h1]
      have q2 : (k == 3) = false := by simp [h2]
      have q3 : (k == 9) = false := by simp [h3]
      have HH := Aside0.mk (And.intro h1 (And.intro h2 h3))
      clear h1 h2 h3
      go_wp2_with fail
      go_meet
      exact ⟨false, rfl, ⟨by rw [← HP.out, pm_f _ HH.out.1 HH.out.2.1 HH.out.2.2]; rfl⟩, rfl⟩
  case rest =>
  obtain ⟨bp, rfl, HBP, rfl⟩ := hcut
  go_upto_if 25 with fail
  go_cut [4] (fun s4 wx => s4 = .int .i64 pm ∧ wx = (w.alloc (.cells #[.int .i64 k, .int .i64 t, .int .i64 pg, .int .i64 pv, .int .i64 nx, .int .i64 ky, .bool hd, .bool hh, .int .i64 ol, .int .i64 nw] 46)))
  case first =>
    have := HBP.out
    cases bp with
    | true => subst this; go_wp2_with fail; go_meet; exact ⟨rfl, rfl⟩
    | false => subst this; go_wp2_with fail; go_meet; exact ⟨rfl, rfl⟩
  case rest =>
  obtain ⟨rfl, rfl⟩ := hcut
  have HB := Aside0.mk (below_alloc (Below.refl w.heap.size w) (.cells #[.int .i64 k, .int .i64 t, .int .i64 pg, .int .i64 pv, .int .i64 nx, .int .i64 ky, .bool hd, .bool hh, .int .i64 ol, .int .i64 nw] 46))
  have HBAD := Aside0.mk (show (b1 && b2 && b3 && b4 && b5 && b6 && b7) = false → errv a (recE ⟨k, t, pg, pv, nx, ky, hd, hh, ol, nw⟩) = .iface 333 (.pointer (some (a 1))) from fun h => by
    unfold recE; rw [HR.out, h]; rfl)
  have HGOOD := Aside0.mk (show (b1 && b2 && b3 && b4 && b5 && b6 && b7) = true → errv a (recE ⟨k, t, pg, pv, nx, ky, hd, hh, ol, nw⟩) = .nilIface from fun h => by
    unfold recE; rw [HR.out, h]; rfl)
  go_wp2_with fail
  refine (in_calls _ _ _ _ H1.out _).mono ?_
  rintro e w' ⟨rfl, rfl⟩
  cases b1 with
  | false =>
    go_wp2_with fail
    go_ret
    exact ⟨by simp [HBAD.out (by simp)], HB.out⟩
  | true =>
  go_wp2_with fail
  refine (in_calls _ _ _ _ H2.out _).mono ?_
  rintro e w' ⟨rfl, rfl⟩
  cases b2 with
  | false =>
    go_wp2_with fail
    go_ret
    exact ⟨by simp [HBAD.out (by simp)], HB.out⟩
  | true =>
  go_wp2_with fail
  refine (in_calls _ _ _ _ H3.out _).mono ?_
  rintro e w' ⟨rfl, rfl⟩
  cases b3 with
  | false =>
    go_wp2_with fail
    go_ret
    exact ⟨by simp [HBAD.out (by simp)], HB.out⟩
  | true =>
  go_wp2_with fail
  refine (prev_calls ⟨k, t, pg, pv, nx, ky, hd, hh, ol, nw⟩ _ H4.out _).mono ?_
  rintro e w3 ⟨rfl, hb⟩
  have hc3_0 : w3.cell? ⟨w.heap.size, 0, none⟩ = some (.int .i64 k) := (hb.cell (p := ⟨w.heap.size, 0, none⟩) (by simp)).trans (by simp)
  have hc3_1 : w3.cell? ⟨w.heap.size, 1, none⟩ = some (.int .i64 t) := (hb.cell (p := ⟨w.heap.size, 1, none⟩) (by simp)).trans (by simp)
  have hc3_2 : w3.cell? ⟨w.heap.size, 2, none⟩ = some (.int .i64 pg) := (hb.cell (p := ⟨w.heap.size, 2, none⟩) (by simp)).trans (by simp)
  have hc3_3 : w3.cell? ⟨w.heap.size, 3, none⟩ = some (.int .i64 pv) := (hb.cell (p := ⟨w.heap.size, 3, none⟩) (by simp)).trans (by simp)
  have hc3_4 : w3.cell? ⟨w.heap.size, 4, none⟩ = some (.int .i64 nx) := (hb.cell (p := ⟨w.heap.size, 4, none⟩) (by simp)).trans (by simp)
  have hc3_5 : w3.cell? ⟨w.heap.size, 5, none⟩ = some (.int .i64 ky) := (hb.cell (p := ⟨w.heap.size, 5, none⟩) (by simp)).trans (by simp)
  have hc3_6 : w3.cell? ⟨w.heap.size, 6, none⟩ = some (.bool hd) := (hb.cell (p := ⟨w.heap.size, 6, none⟩) (by simp)).trans (by simp)
  have hc3_7 : w3.cell? ⟨w.heap.size, 7, none⟩ = some (.bool hh) := (hb.cell (p := ⟨w.heap.size, 7, none⟩) (by simp)).trans (by simp)
  have hc3_8 : w3.cell? ⟨w.heap.size, 8, none⟩ = some (.int .i64 ol) := (hb.cell (p := ⟨w.heap.size, 8, none⟩) (by simp)).trans (by simp)
  have hc3_9 : w3.cell? ⟨w.heap.size, 9, none⟩ = some (.int .i64 nw) := (hb.cell (p := ⟨w.heap.size, 9, none⟩) (by simp)).trans (by simp)
  have hz3 : w.heap.size < w3.heap.size := by have := hb.size; simp at this; omega
  have hg13 : w3.cell? ⟨6, 0, none⟩ = some (.iface 333 (.pointer (some (a 1)))) := (hb.cell (p := ⟨6, 0, none⟩) (by simp <;> omega)).trans (by rw [World.cell?_alloc_lt _ _ _ (by exact hlt1)]; exact hg1)
  replace HB := Aside0.mk (below_step HB.out hb)
  clear hb
  cases b4 with
  | false =>
    go_wp2_with fail
    go_ret
    exact ⟨by simp [HBAD.out (by simp)], HB.out⟩
  | true =>
  go_wp2_with fail
  refine (next_calls ⟨k, t, pg, pv, nx, ky, hd, hh, ol, nw⟩ _ H5.out _).mono ?_
  rintro e w4 ⟨rfl, hb⟩
  have hc4_0 : w4.cell? ⟨w.heap.size, 0, none⟩ = some (.int .i64 k) := (hb.cell (p := ⟨w.heap.size, 0, none⟩) (by exact hz3)).trans (by exact hc3_0)
  have hc4_1 : w4.cell? ⟨w.heap.size, 1, none⟩ = some (.int .i64 t) := (hb.cell (p := ⟨w.heap.size, 1, none⟩) (by exact hz3)).trans (by exact hc3_1)
  have hc4_2 : w4.cell? ⟨w.heap.size, 2, none⟩ = some (.int .i64 pg) := (hb.cell (p := ⟨w.heap.size, 2, none⟩) (by exact hz3)).trans (by exact hc3_2)
  have hc4_3 : w4.cell? ⟨w.heap.size, 3, none⟩ = some (.int .i64 pv) := (hb.cell (p := ⟨w.heap.size, 3, none⟩) (by exact hz3)).trans (by exact hc3_3)
  have hc4_4 : w4.cell? ⟨w.heap.size, 4, none⟩ = some (.int .i64 nx) := (hb.cell (p := ⟨w.heap.size, 4, none⟩) (by exact hz3)).trans (by exact hc3_4)
  have hc4_5 : w4.cell? ⟨w.heap.size, 5, none⟩ = some (.int .i64 ky) := (hb.cell (p := ⟨w.heap.size, 5, none⟩) (by exact hz3)).trans (by exact hc3_5)
  have hc4_6 : w4.cell? ⟨w.heap.size, 6, none⟩ = some (.bool hd) := (hb.cell (p := ⟨w.heap.size, 6, none⟩) (by exact hz3)).trans (by exact hc3_6)
  have hc4_7 : w4.cell? ⟨w.heap.size, 7, none⟩ = some (.bool hh) := (hb.cell (p := ⟨w.heap.size, 7, none⟩) (by exact hz3)).trans (by exact hc3_7)
  have hc4_8 : w4.cell? ⟨w.heap.size, 8, none⟩ = some (.int .i64 ol) := (hb.cell (p := ⟨w.heap.size, 8, none⟩) (by exact hz3)).trans (by exact hc3_8)
  have hc4_9 : w4.cell? ⟨w.heap.size, 9, none⟩ = some (.int .i64 nw) := (hb.cell (p := ⟨w.heap.size, 9, none⟩) (by exact hz3)).trans (by exact hc3_9)
  have hz4 : w.heap.size < w4.heap.size := by have := hb.size; omega
  have hg14 : w4.cell? ⟨6, 0, none⟩ = some (.iface 333 (.pointer (some (a 1)))) := (hb.cell (p := ⟨6, 0, none⟩) (by show 6 < _; omega)).trans (by exact hg13)
  replace HB := Aside0.mk (below_step HB.out hb)
  clear hc3_0 hc3_1 hc3_2 hc3_3 hc3_4 hc3_5 hc3_6 hc3_7 hc3_8 hc3_9 hg13
  clear hb
  cases b5 with
  | false =>
    go_wp2_with fail
    go_ret
    exact ⟨by simp [HBAD.out (by simp)], HB.out⟩
  | true =>
  go_wp2_with fail
  refine (key_calls ⟨k, t, pg, pv, nx, ky, hd, hh, ol, nw⟩ _ H6.out _).mono ?_
  rintro e w5 ⟨rfl, hb⟩
  have hc5_0 : w5.cell? ⟨w.heap.size, 0, none⟩ = some (.int .i64 k) := (hb.cell (p := ⟨w.heap.size, 0, none⟩) (by exact hz4)).trans (by exact hc4_0)
  have hc5_1 : w5.cell? ⟨w.heap.size, 1, none⟩ = some (.int .i64 t) := (hb.cell (p := ⟨w.heap.size, 1, none⟩) (by exact hz4)).trans (by exact hc4_1)
  have hc5_2 : w5.cell? ⟨w.heap.size, 2, none⟩ = some (.int .i64 pg) := (hb.cell (p := ⟨w.heap.size, 2, none⟩) (by exact hz4)).trans (by exact hc4_2)
  have hc5_3 : w5.cell? ⟨w.heap.size, 3, none⟩ = some (.int .i64 pv) := (hb.cell (p := ⟨w.heap.size, 3, none⟩) (by exact hz4)).trans (by exact hc4_3)
  have hc5_4 : w5.cell? ⟨w.heap.size, 4, none⟩ = some (.int .i64 nx) := (hb.cell (p := ⟨w.heap.size, 4, none⟩) (by exact hz4)).trans (by exact hc4_4)
  have hc5_5 : w5.cell? ⟨w.heap.size, 5, none⟩ = some (.int .i64 ky) := (hb.cell (p := ⟨w.heap.size, 5, none⟩) (by exact hz4)).trans (by exact hc4_5)
  have hc5_6 : w5.cell? ⟨w.heap.size, 6, none⟩ = some (.bool hd) := (hb.cell (p := ⟨w.heap.size, 6, none⟩) (by exact hz4)).trans (by exact hc4_6)
  have hc5_7 : w5.cell? ⟨w.heap.size, 7, none⟩ = some (.bool hh) := (hb.cell (p := ⟨w.heap.size, 7, none⟩) (by exact hz4)).trans (by exact hc4_7)
  have hc5_8 : w5.cell? ⟨w.heap.size, 8, none⟩ = some (.int .i64 ol) := (hb.cell (p := ⟨w.heap.size, 8, none⟩) (by exact hz4)).trans (by exact hc4_8)
  have hc5_9 : w5.cell? ⟨w.heap.size, 9, none⟩ = some (.int .i64 nw) := (hb.cell (p := ⟨w.heap.size, 9, none⟩) (by exact hz4)).trans (by exact hc4_9)
  have hz5 : w.heap.size < w5.heap.size := by have := hb.size; omega
  have hg15 : w5.cell? ⟨6, 0, none⟩ = some (.iface 333 (.pointer (some (a 1)))) := (hb.cell (p := ⟨6, 0, none⟩) (by show 6 < _; omega)).trans (by exact hg14)
  replace HB := Aside0.mk (below_step HB.out hb)
  clear hc4_0 hc4_1 hc4_2 hc4_3 hc4_4 hc4_5 hc4_6 hc4_7 hc4_8 hc4_9 hg14
  clear hb
  cases b6 with
  | false =>
    go_wp2_with fail
    go_ret
    exact ⟨by simp [HBAD.out (by simp)], HB.out⟩
  | true =>
  go_wp2_with fail
  refine (values_calls ⟨k, t, pg, pv, nx, ky, hd, hh, ol, nw⟩ _ H7.out _).mono ?_
  rintro e w6 ⟨rfl, hb⟩
  have hc6_0 : w6.cell? ⟨w.heap.size, 0, none⟩ = some (.int .i64 k) := (hb.cell (p := ⟨w.heap.size, 0, none⟩) (by exact hz5)).trans (by exact hc5_0)
  have hc6_1 : w6.cell? ⟨w.heap.size, 1, none⟩ = some (.int .i64 t) := (hb.cell (p := ⟨w.heap.size, 1, none⟩) (by exact hz5)).trans (by exact hc5_1)
  have hc6_2 : w6.cell? ⟨w.heap.size, 2, none⟩ = some (.int .i64 pg) := (hb.cell (p := ⟨w.heap.size, 2, none⟩) (by exact hz5)).trans (by exact hc5_2)
  have hc6_3 : w6.cell? ⟨w.heap.size, 3, none⟩ = some (.int .i64 pv) := (hb.cell (p := ⟨w.heap.size, 3, none⟩) (by exact hz5)).trans (by exact hc5_3)
  have hc6_4 : w6.cell? ⟨w.heap.size, 4, none⟩ = some (.int .i64 nx) := (hb.cell (p := ⟨w.heap.size, 4, none⟩) (by exact hz5)).trans (by exact hc5_4)
  have hc6_5 : w6.cell? ⟨w.heap.size, 5, none⟩ = some (.int .i64 ky) := (hb.cell (p := ⟨w.heap.size, 5, none⟩) (by exact hz5)).trans (by exact hc5_5)
  have hc6_6 : w6.cell? ⟨w.heap.size, 6, none⟩ = some (.bool hd) := (hb.cell (p := ⟨w.heap.size, 6, none⟩) (by exact hz5)).trans (by exact hc5_6)
  have hc6_7 : w6.cell? ⟨w.heap.size, 7, none⟩ = some (.bool hh) := (hb.cell (p := ⟨w.heap.size, 7, none⟩) (by exact hz5)).trans (by exact hc5_7)
  have hc6_8 : w6.cell? ⟨w.heap.size, 8, none⟩ = some (.int .i64 ol) := (hb.cell (p := ⟨w.heap.size, 8, none⟩) (by exact hz5)).trans (by exact hc5_8)
  have hc6_9 : w6.cell? ⟨w.heap.size, 9, none⟩ = some (.int .i64 nw) := (hb.cell (p := ⟨w.heap.size, 9, none⟩) (by exact hz5)).trans (by exact hc5_9)
  have hz6 : w.heap.size < w6.heap.size := by have := hb.size; omega
  have hg16 : w6.cell? ⟨6, 0, none⟩ = some (.iface 333 (.pointer (some (a 1)))) := (hb.cell (p := ⟨6, 0, none⟩) (by show 6 < _; omega)).trans (by exact hg15)
  replace HB := Aside0.mk (below_step HB.out hb)
  clear hc5_0 hc5_1 hc5_2 hc5_3 hc5_4 hc5_5 hc5_6 hc5_7 hc5_8 hc5_9 hg15
  clear hb
  cases b7 with
  | false =>
    go_wp2_with fail
    go_ret
    exact ⟨by simp [HBAD.out (by simp)], HB.out⟩
  | true =>
  go_wp2_with fail
  go_ret
  exact ⟨by simp [HGOOD.out (by simp)], HB.out⟩
end Go.Proofs.YtaplpeoikebedaaGreatDoor.RecC
