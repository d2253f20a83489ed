/- Joined texts: Disk, DiskN, DiskW, RecD, DiskS. -/
import Derived.Test.YtlgpkbhajloajaaDoorJ1
import Derived.Deep.RegionLaw
/- A disk in memory; the contracts of disk.at, disk.Read. No condition but that api's errors are what their text says. -/
namespace Go.Proofs.YtlgpkbhajloajaaDoor.Disk
open Go.RowKit Go.Proofs.YtlgpkbhajloajaaDoorW.PrintWords Go.Proofs.YtlgpkbhajloajaaDoorW.PrintLast Go.Proofs.YtlgpkbhajloajaaDoorW.PrintMore
open Go.Proofs.YtlgpkbhajloajaaDoor.See Go.Proofs.YtlgpkbhajloajaaDoor.Mem Go.Proofs.YtlgpkbhajloajaaDoor.Clone Go.Proofs.YtlgpkbhajloajaaDoor.Cell Go.Proofs.YtlgpkbhajloajaaDoor.Page Go.Proofs.YtlgpkbhajloajaaDoor.PageB Go.Proofs.YtlgpkbhajloajaaDoor.PageR
attribute [local go_sem] max2_imax min2_imin max_two min_two
set_option linter.unusedVariables false
set_option linter.unusedSimpArgs false

/-- A sector: what is fast, what is loose behind it. -/
structure Sec where
  fast : List Int
  loose : List (List Int)

/-- A disk. -/
structure Dsk where
  l : List Sec
  off : Bool
  fuse : Int

/-- A sector's bytes. -/
def SecB (b : List Int) : Prop := b.length = 256 ∧ IsB b
def Sec.ok (s : Sec) : Prop := SecB s.fast ∧ ∀ b ∈ s.loose, SecB b
/-- What was written last. -/
def Sec.last (s : Sec) : List Int := s.loose.getLast?.getD s.fast

theorem Sec.last_ok {s : Sec} (h : s.ok) : SecB s.last := by
  unfold Sec.last
  cases hl : s.loose.getLast? with
  | none => exact h.1
  | some b => exact h.2 b (List.mem_of_getLast? hl)

/-- A sector in memory: its two values. -/
structure SecM (M : Nat → Prop) (w : World) (u v : Value) (s : Sec) : Prop where
  fast : BS w u s.fast
  loose : ∃ vs : List Value, w.ownsRow 0 41 1 v s.loose.length vs ∧ ∀ (i : Nat) (b : List Int), s.loose[i]? = some b → ∃ x : Value, vs[i]? = some x ∧ BS w x b
  low : ∀ k, v.ownBlock = some k → M k

def secCells (rs : List (Value × Value)) : List Value := rs.flatMap fun r => [r.1, r.2]

theorem secCells_len (rs : List (Value × Value)) : (secCells rs).length = rs.length * 2 := by
  induction rs with
  | nil => rfl
  | cons r rs ih => unfold secCells at ih ⊢; simp [List.flatMap_cons, ih]; omega

theorem secCells_at : ∀ (rs : List (Value × Value)) (i : Nat) (r : Value × Value), rs[i]? = some r → (secCells rs)[i * 2]? = some r.1 ∧ (secCells rs)[i * 2 + 1]? = some r.2
  | [], i, t, h => by simp at h
  | s :: ps, 0, t, h => by
    simp at h; subst h
    exact ⟨by simp [secCells, List.flatMap_cons], by simp [secCells, List.flatMap_cons]⟩
  | s :: ps, i + 1, t, h => by
    have := secCells_at ps i t (by simpa using h)
    have e : secCells (s :: ps) = [s.1, s.2] ++ secCells ps := by simp [secCells, List.flatMap_cons]
    rw [e, List.getElem?_append_right (by simp; omega), List.getElem?_append_right (by simp; omega)]
    simp only [List.length_cons, List.length_nil]
    rw [show (i + 1) * 2 - (0 + 1 + 1) = i * 2 from by omega, show (i + 1) * 2 + 1 - (0 + 1 + 1) = i * 2 + 1 from by omega]
    exact this

theorem secCells_append (a b : List (Value × Value)) : secCells (a ++ b) = secCells a ++ secCells b := by unfold secCells; rw [List.flatMap_append]

/-- The struct's cells. -/
def dskCells (g cap : Nat) (d : Dsk) : Array Value := #[.slice (some ⟨g, 0, none⟩) d.l.length cap, .bool d.off, .int .i64 d.fuse]

/-- A disk in memory, its sectors' row at g, their values rs. -/
structure DskAt (M : Nat → Prop) (w : World) (p g cap : Nat) (rs : List (Value × Value)) (d : Dsk) : Prop where
  box : w.heap[p]? = some (.cells (dskCells g cap d) 87 (0, 0))
  row : w.ownsRow 0 90 2 (.slice (some ⟨g, 0, none⟩) d.l.length cap) d.l.length (secCells rs)
  len : rs.length = d.l.length
  mp : M p
  mg : M g
  secs : ∀ (i : Nat) r s, rs[i]? = some r → d.l[i]? = some s → SecM M w r.1 r.2 s
  apart : ∀ (i j : Nat) r q k, rs[i]? = some r → rs[j]? = some q → r.2.ownBlock = some k → q.2.ownBlock = some k → i = j
  ok : ∀ s ∈ d.l, s.ok
  few : d.l.length ≤ 200

/-- A disk in memory. -/
def DskM (M : Nat → Prop) (w : World) (p : Nat) (d : Dsk) : Prop := ∃ g cap rs, DskAt M w p g cap rs d

/-- The kinds of a disk's blocks. -/
def dTags : List Nat := [87, 90, 41, 5]
/-- Those of them that turn. -/
def dTurn : List Nat := [87, 90, 41]

theorem SecM.move {M : Nat → Prop} {w w' : World} {u v : Value} {s : Sec} (h : SecM M w u v s) (hb : ∀ k, k < w.heap.size → tag w k ∈ dTags → w'.heap[k]? = w.heap[k]?) : SecM M w' u v s := by
  have hr : ∀ x b, BS w x b → BS w' x b := fun x b hx => Rd.move hx (fun k hk => by
    obtain ⟨c, fz, hc⟩ := Rd.block hx hk
    exact hb k (heap_lt hc) (by rw [tag_of hc]; decide))
  obtain ⟨vs, h1, h2⟩ := h.loose
  refine ⟨hr _ _ h.fast, ⟨vs, ow_move h1 (fun k hk => by obtain ⟨_, c, hc⟩ := ow_block h1 hk; exact hb k (heap_lt hc) (by rw [tag_of hc]; decide)), fun i b hi => ?_⟩, h.low⟩
  obtain ⟨x, hx, hx2⟩ := h2 i b hi
  exact ⟨x, hx, hr _ _ hx2⟩

theorem SecM.mono {M M' : Nat → Prop} {w : World} {u v : Value} {s : Sec} (h : SecM M w u v s) (hm : ∀ k, M k → M' k) : SecM M' w u v s := ⟨h.fast, h.loose, fun k hk => hm k (h.low k hk)⟩

theorem DskAt.move {M : Nat → Prop} {w w' : World} {p g cap : Nat} {rs : List (Value × Value)} {d : Dsk} (h : DskAt M w p g cap rs d) (hb : ∀ k, k < w.heap.size → tag w k ∈ dTags → w'.heap[k]? = w.heap[k]?) : DskAt M w' p g cap rs d :=
  ⟨(hb p (heap_lt h.box) (by rw [tag_of h.box]; decide)).trans h.box,
   ow_move h.row (fun k hk => by obtain ⟨_, c, hc⟩ := ow_block h.row hk; exact hb k (heap_lt hc) (by rw [tag_of hc]; decide)),
   h.len, h.mp, h.mg, fun i r s hi hs => (h.secs i r s hi hs).move hb, h.apart, h.ok, h.few⟩

theorem DskAt.mono {M M' : Nat → Prop} {w : World} {p g cap : Nat} {rs : List (Value × Value)} {d : Dsk} (h : DskAt M w p g cap rs d) (hm : ∀ k, M k → M' k) : DskAt M' w p g cap rs d :=
  ⟨h.box, h.row, h.len, hm _ h.mp, hm _ h.mg, fun i r s hi hs => (h.secs i r s hi hs).mono hm, h.apart, h.ok, h.few⟩

theorem DskM.move {M : Nat → Prop} {w w' : World} {p : Nat} {d : Dsk} (h : DskM M w p d) (hb : ∀ k, k < w.heap.size → tag w k ∈ dTags → w'.heap[k]? = w.heap[k]?) : DskM M w' p d := by
  obtain ⟨g, cap, rs, h⟩ := h; exact ⟨g, cap, rs, h.move hb⟩
theorem DskM.mono {M M' : Nat → Prop} {w : World} {p : Nat} {d : Dsk} (h : DskM M w p d) (hm : ∀ k, M k → M' k) : DskM M' w p d := by
  obtain ⟨g, cap, rs, h⟩ := h; exact ⟨g, cap, rs, h.mono hm⟩
theorem DskM.below {M : Nat → Prop} {w w' : World} {p : Nat} {d : Dsk} (h : DskM M w p d) (hb : Below w.heap.size w w') : DskM M w' p d := h.move fun k hk _ => hb.block k hk
/-- What turns other kinds leaves it. -/
theorem DskM.frm {T : List Nat} {M M' : Nat → Prop} {w w' : World} {p : Nat} {d : Dsk} (h : DskM M w p d) (hf : Frm T M' w w') (hT : ∀ t ∈ dTags, t ∉ T) : DskM M w' p d :=
  h.move fun k hk ht => hf.block k hk fun _ => hT _ ht

/-- What is read of it. -/
theorem DskAt.cells {M : Nat → Prop} {w : World} {p g cap : Nat} {rs : List (Value × Value)} {d : Dsk} (h : DskAt M w p g cap rs d) :
    w.cell? ⟨p, 0, none⟩ = some (.slice (some ⟨g, 0, none⟩) d.l.length cap) ∧ w.cell? ⟨p, 1, none⟩ = some (.bool d.off) ∧ w.cell? ⟨p, 2, none⟩ = some (.int .i64 d.fuse) := by
  refine ⟨?_, ?_, ?_⟩ <;> simp [World.cell?, h.box, dskCells]

theorem DskAt.sec {M : Nat → Prop} {w : World} {p g cap : Nat} {rs : List (Value × Value)} {d : Dsk} (h : DskAt M w p g cap rs d) {i : Nat} {r : Value × Value} (hi : rs[i]? = some r) :
    w.cell? ⟨g, i * 2, none⟩ = some r.1 ∧ w.cell? ⟨g, i * 2 + 1, none⟩ = some r.2 := by
  have hl := h.row
  have hlt : i < rs.length := (List.getElem?_eq_some_iff.1 hi).1
  obtain ⟨c0, c1⟩ := secCells_at rs i r hi
  rw [hl.cellAt _ (by have := h.len; omega), hl.cellAt _ (by have := h.len; omega)]
  exact ⟨c0, c1⟩

set_option maxHeartbeats 1000000 in
set_option maxRecDepth 100000 in
theorem at_in (p g n cap : Nat) (i : Int) (w : World) (hc : w.cell? ⟨p, 0, none⟩ = some (.slice (some ⟨g, 0, none⟩) n cap)) (h0 : 0 ≤ i) (h1 : i < n) :
    Calls Tryd.prog 33 #[.pointer (some ⟨p, 0, none⟩), .int .i64 i] w fun e w' => e = .returned (.pointer (some ⟨g, i.toNat * 2, none⟩)) ∧ w = w' := by
  go_enter Tryd.func33, Tryd.ntmps33
  go_wp2
  go_ret
  simp

set_option maxHeartbeats 1000000 in
set_option maxRecDepth 100000 in
theorem at_out (p g n cap : Nat) (i : Int) (w : World) (hc : w.cell? ⟨p, 0, none⟩ = some (.slice (some ⟨g, 0, none⟩) n cap)) (h : i < 0 ∨ (n : Int) ≤ i) :
    Calls Tryd.prog 33 #[.pointer (some ⟨p, 0, none⟩), .int .i64 i] w fun e w' => e = .returned (.pointer none) ∧ w = w' := by
  rcases (show i < 0 ∨ (0 ≤ i ∧ (n : Int) ≤ i) by omega) with h | ⟨h, h2⟩
  · go_enter Tryd.func33, Tryd.ntmps33
    go_wp2
    go_ret
    simp
  · go_enter Tryd.func33, Tryd.ntmps33
    go_wp2
    go_ret
    simp

/-- A sector that is there. -/
def inD (d : Dsk) (i : Int) : Bool := decide (0 ≤ i) && decide (i < d.l.length)
/-- What disk.Read gives, and its error. -/
def readV (d : Dsk) (i : Int) : List Int := if d.off then [] else if inD d i then (d.l[i.toNat]?.map Sec.last).getD [] else []
def readE (d : Dsk) (i : Int) : Option Nat := if d.off then some 0 else if inD d i then none else some 1

/-- What disk.Read comes to. -/
def ReadDPost (a : Nat → Addr) (d : Dsk) (i : Int) (w : World) (e : Ending) (w' : World) : Prop :=
  ∃ v, e = .returned (.tuple #[v, errv a (readE d i)]) ∧ BS w' v (readV d i) ∧ Below w.heap.size w w'

theorem readE_off {d : Dsk} {i : Int} (h : d.off = true) : readE d i = some 0 ∧ readV d i = [] := by unfold readE readV; simp [h]
theorem readE_out {d : Dsk} {i : Int} (h : d.off = false) (hi : inD d i = false) : readE d i = some 1 ∧ readV d i = [] := by unfold readE readV; simp [h, hi]
theorem readE_in {d : Dsk} {i : Int} {s : Sec} (h : d.off = false) (hi : inD d i = true) (hs : d.l[i.toNat]? = some s) : readE d i = none ∧ readV d i = s.last := by unfold readE readV; simp [h, hi, hs]
theorem inD_true {d : Dsk} {i : Int} (h : inD d i = true) : 0 ≤ i ∧ i < d.l.length := by unfold inD at h; simpa using h
theorem inD_false {d : Dsk} {i : Int} (h : inD d i = false) : i < 0 ∨ (d.l.length : Int) ≤ i := by
  unfold inD at h; simp at h; omega

set_option maxHeartbeats 2000000 in
set_option maxRecDepth 100000 in
theorem read_disk (a : Nat → Addr) (M : Nat → Prop) (p : Nat) (d : Dsk) (i : Int) (w : World) (hs : Sents w a) (hd : DskM M w p d) :
    Calls Tryd.prog 23 #[.pointer (some ⟨p, 0, none⟩), .int .i64 i] w (ReadDPost a d i w) := by
  obtain ⟨g, cap, rs, hd⟩ := hd
  obtain ⟨hc0, hc1, hc2⟩ := hd.cells
  have HD := Aside0.mk hd
  have HS := Aside0.mk hs
  have hg0 : w.cell? ⟨2, 0, none⟩ = some (.iface 163 (.pointer (some (a 0)))) := hs.cell 0 (by decide)
  have hg1 : w.cell? ⟨0, 0, none⟩ = some (.iface 163 (.pointer (some (a 1)))) := hs.cell 1 (by decide)
  have hpost : ∀ v o e, readE d i = o → readV d i = e → ∀ w', BS w' v e → Below w.heap.size w w' → ReadDPost a d i w (.returned (.tuple #[v, errv a o])) w' := fun v o e h1 h2 w' hb hB => ⟨v, by rw [h1], by rw [h2]; exact hb, hB⟩
  have HPOST := Aside0.mk hpost
  obtain ⟨off, hoff⟩ : ∃ o, d.off = o := ⟨_, rfl⟩
  have HOFF := Aside0.mk hoff
  rw [hoff] at hc1
  clear hd hs hpost hoff hc2
  have hat : Aside0 (∃ q : Option Addr, (inD d i = true → q = some ⟨g, i.toNat * 2, none⟩) ∧ (inD d i = false → q = none) ∧ Calls Tryd.prog 33 #[.pointer (some ⟨p, 0, none⟩), .int .i64 i] w fun e w' => e = .returned (.pointer q) ∧ w = w') := by
    refine ⟨?_⟩
    cases hin : inD d i with
    | true => exact ⟨_, fun _ => rfl, fun h => (by cases h), at_in p g _ cap i w hc0 (inD_true hin).1 (inD_true hin).2⟩
    | false => exact ⟨none, fun h => (by cases h), fun _ => rfl, at_out p g _ cap i w hc0 (inD_false hin)⟩
  clear hc0
  obtain ⟨q, hq1, hq2, hcall⟩ := hat.out
  have HQ1 := Aside0.mk hq1
  have HQ2 := Aside0.mk hq2
  have HCALL := Aside0.mk hcall
  clear hq1 hq2 hcall hat
  go_enter Tryd.func23, Tryd.ntmps23
  go_wp2_with fail
  refine HCALL.out.mono ?_
  rintro e w' ⟨rfl, rfl⟩
  cases off with
  | true =>
    go_wp2_with fail
    go_region
    all_goals
      go_wp2_with fail
      exact bodyPost_ret (v := .tuple #[.slice none 0 0, .iface 163 (.pointer (some (a 0)))]) (by simp [results, Tryd.results23, go_sem]) rfl (HPOST.out _ (some 0) [] (readE_off HOFF.out).1 (readE_off HOFF.out).2 _ (BS.nil _) (by repeat (first | exact Below.refl _ _ | apply pw_below_drewN | apply below_drew1)))
  | false =>
    cases hin : inD d i with
    | false =>
      have hq := HQ2.out hin
      have HIN := Aside0.mk hin
      clear hin
      subst hq
      go_wp2_with fail
      go_region
      all_goals
        go_wp2_with fail
        exact bodyPost_ret (v := .tuple #[.slice none 0 0, .iface 163 (.pointer (some (a 1)))]) (by simp [results, Tryd.results23, go_sem]) rfl (HPOST.out _ (some 1) [] (readE_out HOFF.out HIN.out).1 (readE_out HOFF.out HIN.out).2 _ (BS.nil _) (by repeat (first | exact Below.refl _ _ | apply pw_below_drewN | apply below_drew1)))
    | true =>
      have hq := HQ1.out hin
      subst hq
      obtain ⟨i0, i1⟩ := inD_true hin
      obtain ⟨s, hs⟩ : ∃ s, d.l[i.toNat]? = some s := ⟨_, List.getElem?_eq_getElem (by omega)⟩
      obtain ⟨r, hr⟩ : ∃ r, rs[i.toNat]? = some r := ⟨_, List.getElem?_eq_getElem (by have := HD.out.len; omega)⟩
      have hsm := HD.out.secs _ r s hr hs
      obtain ⟨hd0, hd1⟩ := HD.out.sec hr
      have HRE := Aside0.mk (readE_in HOFF.out hin hs)
      obtain ⟨fv, lv⟩ := r
      obtain ⟨hfast, ⟨vs, hown, hls⟩, hlow⟩ := hsm
      simp only at hd0 hd1 hfast hown hls
      obtain ⟨m, hm⟩ : ∃ m, s.loose.length = m := ⟨_, rfl⟩
      have HMM := Aside0.mk hm
      have HF := Aside0.mk hfast
      have HO := Aside0.mk hown
      have HLS := Aside0.mk hls
      obtain ⟨A', c', rfl, hA'⟩ := ow_slice hown
      rw [hm] at hd1 hA'
      clear hin hs hr hfast hown hls hlow hm i1
      by_cases hm0 : m = 0
      · have HL := Aside0.mk (show s.last = s.fast by
          have : s.loose = [] := List.eq_nil_of_length_eq_zero (by rw [HMM.out]; exact hm0)
          unfold Sec.last; rw [this]; rfl)
        subst hm0
        go_wp2_with fail
        refine (clone_bytes fv _ _ w HF.out (fun u hu => by obtain ⟨x, _, rfl⟩ := List.mem_map.1 hu; rfl)).mono ?_
        rintro e w1 ⟨v1, rfl, ho, hb⟩
        have HO1 := Aside0.mk ho
        have HB1 := Aside0.mk hb
        clear ho hb
        go_wp2_with fail
        exact bodyPost_ret (v := .tuple #[v1, .nilIface]) (by simp [results, Tryd.results23, go_sem]) rfl (HPOST.out v1 none _ HRE.out.1 HRE.out.2 _ (by rw [HL.out]; exact Rd.of_own HO1.out HF.out.2.1) HB1.out)
      · have hm1 : 0 < m := by omega
        obtain ⟨lg, rfl⟩ : ∃ lg, A' = some ⟨lg, 0, none⟩ := by
          obtain ⟨g', c2, he, _⟩ := HO.out.form (by have := HMM.out; omega)
          injection he with he1
          exact ⟨g', he1⟩
        obtain ⟨b, hb⟩ : ∃ b, s.loose[m - 1]? = some b := ⟨_, List.getElem?_eq_getElem (by have := HMM.out; omega)⟩
        obtain ⟨x, hx, hbx⟩ := HLS.out _ b hb
        have HBX := Aside0.mk hbx
        have HL := Aside0.mk (show s.last = b by unfold Sec.last; rw [List.getLast?_eq_getElem?, HMM.out, hb]; rfl)
        have hcx : w.cell? ⟨lg, m - 1, none⟩ = some x := by
          have := HO.out
          rw [HMM.out] at this
          rw [this.cellAt _ (by omega)]; exact hx
        have hgt : decide ((m : Int) > 0) = true := decide_eq_true (by omega)
        have hmx := HO.out
        clear hb hx hbx hA'
        have hmb : m ≤ 9223372036854775807 := by
          rcases hmx.2 with ⟨h, h0⟩ | ⟨_, cc, _, h, _, _, h1, h2, _⟩
          · have := HMM.out; omega
          · have := HMM.out; unfold maxLen at h2; omega
        obtain ⟨mm, hmm⟩ : ∃ mm : Int, (m : Int) = mm := ⟨_, rfl⟩
        have hw : IntKind.i64.wrap (mm - 1) = mm - 1 := IntWalk.i64_in _ (by omega)
        have hnn : 0 ≤ mm - 1 := by omega
        have h1m : 1 ≤ mm := by omega
        have h0m : 0 < mm := by omega
        have hnm : ¬ mm ≤ 0 := by omega
        have hnm2 : ¬ mm < 1 := by omega
        have hnl : mm - 1 < mm := by omega
        have htn : (mm - 1).toNat = m - 1 := by omega
        have htn2 : mm.toNat - 1 = m - 1 := by omega
        rw [hmm] at hgt
        clear hmx
        go_wp2_with fail
        go_region_held3 (fun w' => w'.cell? ⟨g, i.toNat * 2 + 1, none⟩ = some (.slice (some ⟨lg, 0, none⟩) m c') ∧ w'.cell? ⟨lg, m - 1, none⟩ = some x)
          (refine ⟨?_, ?_⟩ <;> (first | go_keep | exact hk1 | exact hk2))
          (first | (go_at_call 34; refine (clone_bytes x _ _ _ (by exact HBX.out) (fun u hu => by obtain ⟨z, _, rfl⟩ := List.mem_map.1 hu; rfl)).mono ?_; rintro e w1 ⟨v1, rfl, ho, hb⟩; have hk1 : w1.cell? ⟨g, i.toNat * 2 + 1, none⟩ = some (.slice (some ⟨lg, 0, none⟩) m c') := pw_cell_below hb hd1; have hk2 : w1.cell? ⟨lg, m - 1, none⟩ = some x := pw_cell_below hb hcx))
        have HO1 := Aside0.mk ho
        have HB1 := Aside0.mk (show Below w.heap.size w w1 from ⟨hb.os, hb.tape, hb.output, hb.size, hb.block⟩)
        clear ho hb hk1 hk2 hw hnn hnl htn htn2 h1m h0m hnm hnm2
        go_wp2_with fail
        exact bodyPost_ret (v := .tuple #[v1, .nilIface]) (by simp [results, Tryd.results23, go_sem]) rfl (HPOST.out v1 none _ HRE.out.1 HRE.out.2 _ (by rw [HL.out]; exact Rd.of_own HO1.out HBX.out.2.1) HB1.out)

end Go.Proofs.YtlgpkbhajloajaaDoor.Disk
/- The contract of disk.New. No condition. -/
namespace Go.Proofs.YtlgpkbhajloajaaDoor.DiskN
open Go.RowKit Go.Proofs.YtlgpkbhajloajaaDoorW.PrintWords Go.Proofs.YtlgpkbhajloajaaDoorW.PrintLast Go.Proofs.YtlgpkbhajloajaaDoorW.PrintMore
open Go.Proofs.YtlgpkbhajloajaaDoor.See Go.Proofs.YtlgpkbhajloajaaDoor.Mem Go.Proofs.YtlgpkbhajloajaaDoor.Clone Go.Proofs.YtlgpkbhajloajaaDoor.Cell Go.Proofs.YtlgpkbhajloajaaDoor.Page Go.Proofs.YtlgpkbhajloajaaDoor.PageB Go.Proofs.YtlgpkbhajloajaaDoor.PageR Go.Proofs.YtlgpkbhajloajaaDoor.Disk
attribute [local go_sem] max2_imax min2_imin max_two min_two
set_option linter.unusedVariables false
set_option linter.unusedSimpArgs false

theorem info_sector : (Tryd.prog.info? 90).map (fun i => (i.zero, i.size, i.bytes)) = some (some (.agg #[.slice none 0 0, .slice none 0 0]), 2, 48) := by kernel_rfl

/-- A sector of zeros. -/
def zsec : Sec := ⟨List.replicate 256 0, []⟩
/-- A disk of zeros. -/
def zdisk (n : Nat) : Dsk := ⟨List.replicate n zsec, false, -1⟩
/-- How many sectors. -/
def secsN (n : Int) : Nat := (imin (imax n 1) 200).toNat

theorem zsec_ok : zsec.ok := ⟨⟨List.length_replicate .., IsB.zeros _⟩, fun b hb => absurd hb (List.not_mem_nil)⟩

/-- The sectors made so far, in memory. -/
structure NewM (w0 : Nat) (w : World) (sl : Value) (rs : List (Value × Value)) : Prop where
  box : w.heap[w0]? = some (.cells #[sl, .bool false, .int .i64 (-1)] 87 (0, 0))
  row : w.ownsRow (w0 + 1) 90 2 sl rs.length (secCells rs)
  secs : ∀ r ∈ rs, BS w r.1 (List.replicate 256 0) ∧ r.2 = .slice none 0 0
  size : w0 + 1 ≤ w.heap.size

theorem news_sec (W : World) (b : Nat) (hb : W.heap.size = b) (u v : Value) (e : Nat) : ∀ j x, [u, v][j]? = some x → (W.alloc (.cells #[u, v] e)).cell? ((⟨b, 0, none⟩ : Addr).add j) = some x := by subst hb; exact news2_at W u v e
theorem len48 {n : Nat} (h : n ≤ 100000) : (n + 1) * 48 ≤ 140737488355328 := by omega

theorem one_sec (b : Nat) : ∀ u ∈ [Value.slice (some ⟨b, 0, none⟩) 256 256, Value.slice none 0 0], u.oneCell' = true := by
  intro u hu
  simp at hu
  rcases hu with rfl | rfl <;> rfl

set_option maxHeartbeats 4000000 in
set_option maxRecDepth 100000 in
theorem new_disk (n : Int) (w : World) :
    Calls Tryd.prog 25 #[.int .i64 n] w fun e w' => ∃ p, e = .returned (.pointer (some ⟨p, 0, none⟩)) ∧ DskM (fun k => w.heap.size ≤ k) w' p (zdisk (secsN n)) ∧ Below w.heap.size w w' := by
  obtain ⟨i0, hi, hzz⟩ := Option.map_eq_some_iff.1 info_sector
  simp only [Prod.mk.injEq] at hzz
  obtain ⟨hz0, hz1, hz2⟩ := hzz
  obtain ⟨m, hm⟩ : ∃ m, imin (imax n 1) 200 = m := ⟨_, rfl⟩
  have hm1 : 1 ≤ m ∧ m ≤ 200 := by rw [← hm, imin_eq, imax_eq]; omega
  have HM := Aside0.mk (show secsN n = m.toNat by unfold secsN; rw [hm])
  obtain ⟨m1, m2⟩ := hm1
  have HI0 := Aside0.mk (And.intro hi (And.intro hz0 (And.intro hz1 hz2)))
  clear hi hz0 hz1 hz2
  go_enter Tryd.func25, Tryd.ntmps25
  go_wp2_with fail
  go_loopg [9] (m.toNat + 1) (fun kq v9 w' => ∃ (i : Int) (sl : Value) (rs : List (Value × Value)), v9 = .int .i64 i ∧ Aside0 (0 ≤ i ∧ i ≤ m ∧ (kq : Int) = m + 1 - i ∧ rs.length = i.toNat) ∧ Aside0 (NewM w.heap.size w' sl rs) ∧ Aside0 (Below w.heap.size w w'))
  case atStart =>
    refine ⟨0, .slice none 0 0, [], rfl, ⟨by omega, by omega, by omega, rfl⟩, ⟨⟨?_, World.ownsRow_nil _ _ _ _, fun r h => by simp at h, by simp⟩⟩, ⟨by repeat (first | exact Below.refl _ _ | apply below_drew1 | apply below_alloc)⟩⟩
    show (w.heap.push _)[w.heap.size]? = _
    exact Array.getElem?_push_size
  case round =>
    obtain ⟨i, sl, rs, rfl, HI, HN, HB⟩ := hrel
    have hi0 : 0 ≤ i := HI.out.1
    by_cases hlt : i < m
    · obtain ⟨hi, hz0, hz1, hz2⟩ := HI0.out
      have hc0 : wr.cell? ⟨w.heap.size, 0, none⟩ = some sl := by simp [World.cell?, HN.out.box]
      have hf0 : wr.frozen? ⟨w.heap.size, 0, none⟩ = false := by simp [World.frozen?, HN.out.box]
      have hsz := HN.out.size
      have hsz1 : w.heap.size < wr.heap.size := hsz
      have hmk := make256
      have hn5 : rs.length ≤ 100000 := by have := HI.out; omega
      go_wp2_with fail
      go_region_law (first
        | (refine step_append_lies _ (by rfl) _ _ 85 (by rfl) (w.heap.size + 1) 90 i0 (.agg #[.slice none 0 0, .slice none 0 0]) 2 48 Tryd.underlying85 hi hz0 hz1 hz2 rfl (by decide) _ rs.length (secCells rs) (by rfl) (by exact ow_below HN.out.row (by repeat (first | exact Below.refl _ _ | apply below_drew1 | apply below_alloc))) ⟨wr.heap.size + 1, 0, none⟩ 1 1 [.slice (some ⟨wr.heap.size, 0, none⟩) 256 256, .slice none 0 0] (by rfl) rfl (by exact news_sec _ _ (by simp) _ _ _) (by exact one_sec _) (by decide) (by exact len_ok hn5) (by exact len48 hn5) (by simp; omega) (wr.heap.size + 2) (by simp) ?_; intro g2 cap2 w3 hown hgr hor hlt3; have hblk : w3.heap[w.heap.size]? = wr.heap[w.heap.size]? := grown_blk hgr (by exact (show Below wr.heap.size wr _ by repeat (first | exact Below.refl _ _ | apply below_drew1 | apply below_alloc)).block _ hsz1) (by simp; omega) (fun k hk => by have := (ow_block HN.out.row hk).1; omega); have hs1 : w3.cell? ⟨w.heap.size, 0, none⟩ = some sl := (World.cell?_of_block (w := wr) (a := ⟨w.heap.size, 0, none⟩) hblk).trans hc0; have hs2 : w3.frozen? ⟨w.heap.size, 0, none⟩ = false := (World.frozen?_of_block (w := wr) (a := ⟨w.heap.size, 0, none⟩) hblk).trans hf0))
      all_goals
        have HW := Aside0.mk (show ∀ b, b < wr.heap.size → some b ≠ sl.ownBlock → w3.heap[b]? = wr.heap[b]? from fun b hb hne => (hgr.block b (by simp; omega) hne).trans ((show Below wr.heap.size wr _ by repeat (first | exact Below.refl _ _ | apply below_drew1 | apply below_alloc)).block _ hb))
        have HSZ := Aside0.mk (show wr.heap.size + 2 ≤ w3.heap.size by have := hgr.size; simp at this; omega)
        have HZ := Aside0.mk (show w3.heap[wr.heap.size]? = some (.cells zb 5 (0, 0)) from (hgr.block wr.heap.size (by simp; omega) (fun e => by
          obtain ⟨_, c, hc⟩ := ow_block HN.out.row e.symm
          have := heap_lt hc
          omega)).trans (by
          show ((wr.heap.push _).push _)[wr.heap.size]? = _
          rw [Array.getElem?_push, if_neg (by simp), Array.getElem?_push_size]))
        have HO3 := Aside0.mk (show w3.ownsRow (w.heap.size + 1) 90 2 (.slice (some ⟨g2, 0, none⟩) (rs.length + 1) cap2) (rs.length + 1) (secCells (rs ++ [(.slice (some ⟨wr.heap.size, 0, none⟩) 256 256, .slice none 0 0)])) from by rw [secCells_append]; exact hown)
        have HB3 := Aside0.mk (show Below w.heap.size w w3 from (HB.out.trans (Below.mono (show Below wr.heap.size wr _ by repeat (first | exact Below.refl _ _ | apply below_drew1 | apply below_alloc)) (by omega))).grown (w := _) hgr (by simp; omega) (fun k hk => by have := (ow_block HN.out.row hk).1; omega))
        have HS1 := Aside0.mk hs1
        clear hown hgr hor hlt3 hblk hi hz0 hz1 hz2 hmk hc0 hf0
        go_wp2_with fail
        go_roundg (gk - 1)
        case measure => have := HI.out; omega
        case rel =>
          refine ⟨i + 1, .slice (some ⟨g2, 0, none⟩) (rs.length + 1) cap2, rs ++ [(.slice (some ⟨wr.heap.size, 0, none⟩) 256 256, .slice none 0 0)], rfl, ⟨by omega, by omega, by have := HI.out; omega, by rw [List.length_append]; have := HI.out; simp; omega⟩, ⟨?_⟩, ⟨HB3.out.setCell (Nat.le_refl _) _⟩⟩
          have hmv : ∀ x b, BS wr x b → BS (w3.setCell ⟨w.heap.size, 0, none⟩ (.slice (some ⟨g2, 0, none⟩) (rs.length + 1) cap2)) x b := fun x b hx => Rd.move hx (fun k hk => by
            obtain ⟨c, fz, hc⟩ := Rd.block hx hk
            rw [Below.heap_setCell _ _ _ _ (show k ≠ w.heap.size from fun e => by subst e; rw [HN.out.box] at hc; injection hc with hc; injection hc with _ h2; exact absurd h2 (by decide))]
            exact HW.out k (heap_lt hc) (fun e => by
              obtain ⟨_, c2, hc2⟩ := ow_block HN.out.row e.symm
              rw [hc2] at hc; injection hc with hc; injection hc with _ h2; exact absurd h2 (by decide)))
          refine ⟨?_, ?_, ?_, ?_⟩
          · have hb0 : w3.heap[w.heap.size]? = some (.cells #[sl, .bool false, .int .i64 (-1)] 87 (0, 0)) := (HW.out _ hsz1 (fun e => by have := (ow_block HN.out.row e.symm).1; omega)).trans HN.out.box
            rw [heap_setCell_same _ _ _ _ _ _ hb0]
            simp
          · rw [List.length_append]
            exact ow_move HO3.out (fun k hk => Below.heap_setCell _ _ _ _ (by have := (ow_block HO3.out hk).1; show k ≠ w.heap.size; omega))
          · intro r hr
            rcases List.mem_append.1 hr with h | h
            · exact ⟨hmv _ _ (HN.out.secs r h).1, (HN.out.secs r h).2⟩
            · obtain rfl := List.mem_singleton.1 h
              exact ⟨bs_zb (by rw [Below.heap_setCell _ _ _ _ (show wr.heap.size ≠ w.heap.size by omega)]; exact HZ.out), rfl⟩
          · have := HSZ.out
            simp [World.setCell]
            omega
    · have HI2 := Aside0.mk (show rs.length = m.toNat by have := HI.out; omega)
      obtain ⟨g, cap, hsl, hbg, hgl⟩ := HN.out.row.form (by have := HI2.out; omega)
      subst hsl
      go_wp2_with fail
      go_ret
      refine ⟨w.heap.size, rfl, ⟨g, cap, rs, ?_⟩, HB.out⟩
      have hlen : rs.length = (zdisk (secsN n)).l.length := by rw [HM.out, HI2.out]; exact (List.length_replicate ..).symm
      refine ⟨?_, ?_, hlen, Nat.le_refl _, by show w.heap.size ≤ g; omega, ?_, ?_, ?_, ?_⟩
      · have := HN.out.box
        rw [hlen] at this
        exact this
      · have := ow_base HN.out.row (Nat.zero_le _)
        rw [hlen] at this
        exact this
      · intro j r s hr hs
        obtain ⟨h1, h2⟩ := HN.out.secs r (List.mem_of_getElem? hr)
        have hs' : s = zsec := (List.mem_replicate.1 (List.mem_of_getElem? hs)).2
        subst hs'
        rw [h2]
        exact ⟨h1, ⟨[], World.ownsRow_nil _ _ _ _, fun i b hb => by cases hb⟩, fun k hk => by cases hk⟩
      · intro j1 j2 r q k h1 h2 h3 h4
        rw [(HN.out.secs r (List.mem_of_getElem? h1)).2] at h3
        cases h3
      · intro s hs
        obtain ⟨_, rfl⟩ := List.mem_replicate.1 hs
        exact zsec_ok
      · rw [← hlen]; have := HI2.out; omega

end Go.Proofs.YtlgpkbhajloajaaDoor.DiskN
/- The contracts of disk.spend, disk.Write, disk.Fuse, disk.Off. No condition but that api's errors are what their text says. -/
namespace Go.Proofs.YtlgpkbhajloajaaDoor.DiskW
open Go.RowKit Go.Proofs.YtlgpkbhajloajaaDoorW.PrintWords Go.Proofs.YtlgpkbhajloajaaDoorW.PrintLast Go.Proofs.YtlgpkbhajloajaaDoorW.PrintMore
open Go.Proofs.YtlgpkbhajloajaaDoor.See Go.Proofs.YtlgpkbhajloajaaDoor.Mem Go.Proofs.YtlgpkbhajloajaaDoor.Clone Go.Proofs.YtlgpkbhajloajaaDoor.Cell Go.Proofs.YtlgpkbhajloajaaDoor.Page Go.Proofs.YtlgpkbhajloajaaDoor.PageB Go.Proofs.YtlgpkbhajloajaaDoor.PageR Go.Proofs.YtlgpkbhajloajaaDoor.Disk Go.Proofs.YtlgpkbhajloajaaDoor.DiskN
attribute [local go_sem] max2_imax min2_imin max_two min_two
set_option linter.unusedVariables false
set_option linter.unusedSimpArgs false

/-- Whether power is there for one thing more. -/
def spendB (d : Dsk) : Bool := !decide (d.fuse = 0)
/-- The disk behind it. -/
def spendD (d : Dsk) : Dsk := if d.fuse < 0 then d else if d.fuse = 0 then { d with off := true } else { d with fuse := d.fuse - 1 }

/-- Api's errors are outside a region. -/
def OutK (K : List Nat) (M : Nat → Prop) (a : Nat → Addr) : Prop := ∀ i, i ∈ K → ¬ M (gl i) ∧ ¬ M (a i).block
abbrev Out (M : Nat → Prop) (a : Nat → Addr) : Prop := OutK kn M a

theorem OutK.gr {K : List Nat} {M : Nat → Prop} {a : Nat → Addr} {w w' : World} (h : OutK K M a) (hs : SentsK K w a) : OutK K (Gr M w w') a := fun i hi => by
  obtain ⟨h1, h2⟩ := h i hi
  have l1 : gl i < w.heap.size := World.block_lt_of_cell? _ _ (hs.cell i hi)
  obtain ⟨c, t, hr⟩ := hs.row i hi
  have l2 := heap_lt hr
  refine ⟨fun h => ?_, fun h => ?_⟩
  · rcases h with h | ⟨h, _⟩
    · exact h1 h
    · omega
  · rcases h with h | ⟨h, _⟩
    · exact h2 h
    · omega

/-- Api's errors stay, where what turns is elsewhere. -/
theorem sents_frm {K : List Nat} {T : List Nat} {M : Nat → Prop} {w w1 : World} {a : Nat → Addr} (h : SentsK K w a) (hf : Frm T M w w1) (hO : OutK K M a) : SentsK K w1 a := by
  refine ⟨fun i hi => ?_, fun i hi => ?_, h.ne⟩
  · exact (World.cell?_of_block (a := ⟨gl i, 0, none⟩) (hf.block (gl i) (World.block_lt_of_cell? _ _ (h.cell i hi)) (fun hm => absurd hm (hO i hi).1))).trans (h.cell i hi)
  · obtain ⟨c, t, hr⟩ := h.row i hi
    exact ⟨c, t, (hf.block _ (row_lt hr) (fun hm => absurd hm (hO i hi).2)).trans hr⟩

/-- The struct's block alone turns. -/
theorem dsk_put {M : Nat → Prop} {w : World} {p g cap : Nat} {rs : List (Value × Value)} {d : Dsk} (h : DskAt M w p g cap rs d) (i : Nat) (v : Value) (d' : Dsk) (hl : d'.l = d.l) (hc : (dskCells g cap d).setIfInBounds i v = dskCells g cap d') :
    DskAt M (w.setCell ⟨p, i, none⟩ v) p g cap rs d' := by
  have hne : ∀ (k : Nat) (c : Array Value) (e : Nat) (fz : Nat × Nat), w.heap[k]? = some (.cells c e fz) → e ≠ 87 → (w.setCell ⟨p, i, none⟩ v).heap[k]? = w.heap[k]? := fun k c e fz hk he =>
    Below.heap_setCell _ _ _ _ (fun e2 => by
      subst e2
      rw [h.box] at hk
      injection hk with hk; injection hk with _ hk
      exact he hk.symm)
  have hbs : ∀ x b, BS w x b → BS (w.setCell ⟨p, i, none⟩ v) x b := fun x b hx => Rd.move hx fun k hk => by
    obtain ⟨c, fz, hc⟩ := Rd.block hx hk
    exact hne k _ _ _ hc (by decide)
  refine ⟨?_, ?_, by rw [hl]; exact h.len, h.mp, h.mg, fun j r s hj hs => ?_, h.apart, by rw [hl]; exact h.ok, by rw [hl]; exact h.few⟩
  · rw [heap_setCell_same _ _ _ _ _ _ h.box, hc]
  · rw [hl]
    exact ow_move h.row fun k hk => by obtain ⟨_, c, hc⟩ := ow_block h.row hk; exact hne k _ _ _ hc (by decide)
  · rw [hl] at hs
    obtain ⟨h1, ⟨vs, h2, h3⟩, h4⟩ := h.secs j r s hj hs
    refine ⟨hbs _ _ h1, ⟨vs, ow_move h2 fun k hk => by obtain ⟨_, c, hc⟩ := ow_block h2 hk; exact hne k _ _ _ hc (by decide), fun i b hb => ?_⟩, h4⟩
    obtain ⟨x, hx, hx2⟩ := h3 i b hb
    exact ⟨x, hx, hbs _ _ hx2⟩

theorem dsk_frozen {M : Nat → Prop} {w : World} {p g cap : Nat} {rs : List (Value × Value)} {d : Dsk} (h : DskAt M w p g cap rs d) (i : Nat) : w.frozen? ⟨p, i, none⟩ = false := by simp [World.frozen?, h.box]

/-- A store into a block that may turn. -/
theorem frm_box {T : List Nat} {M : Nat → Prop} {w : World} {p : Nat} {c : Array Value} {e : Nat} {f : Nat × Nat} (h : w.heap[p]? = some (.cells c e f)) (hM : M p) (hT : e ∈ T) (i : Nat) (v : Value) : Frm T M w (w.setCell ⟨p, i, none⟩ v) :=
  (Frm.refl T M w).set (fun _ => ⟨hM, by rw [tag_of h]; exact hT⟩) v

set_option maxHeartbeats 1000000 in
set_option maxRecDepth 100000 in
theorem spend_disk (M : Nat → Prop) (p g cap : Nat) (rs : List (Value × Value)) (d : Dsk) (w : World) (hd : DskAt M w p g cap rs d) (hf : -1 ≤ d.fuse) (hf2 : d.fuse ≤ 9223372036854775807) :
    Calls Tryd.prog 35 #[.pointer (some ⟨p, 0, none⟩)] w fun e w' => e = .returned (.bool (spendB d)) ∧ DskAt M w' p g cap rs (spendD d) ∧ Frm dTurn M w w' := by
  obtain ⟨hc0, hc1, hc2⟩ := hd.cells
  have HD := Aside0.mk hd
  have hz1 : w.frozen? ⟨p, 1, none⟩ = false := dsk_frozen hd 1
  have hz2 : w.frozen? ⟨p, 2, none⟩ = false := dsk_frozen hd 2
  have hlt : p < w.heap.size := heap_lt hd.box
  obtain ⟨f, hff⟩ : ∃ f, d.fuse = f := ⟨_, rfl⟩
  have HF := Aside0.mk hff
  rw [hff] at hf hf2 hc2
  clear hd hff hc0
  rcases (show f < 0 ∨ f = 0 ∨ 0 < f by omega) with h | h | h
  · have h2 : (f == 0) = false := by simp; omega
    have HP := Aside0.mk (show spendB d = true ∧ spendD d = d by unfold spendB spendD; rw [HF.out, if_pos h]; exact ⟨by simp; omega, rfl⟩)
    go_enter Tryd.func35, Tryd.ntmps35
    go_wp2
    go_ret
    exact ⟨by simp [HP.out.1], by rw [HP.out.2]; exact HD.out, Frm.refl _ _ _⟩
  · subst h
    have HP := Aside0.mk (show spendB d = false ∧ spendD d = { d with off := true } by unfold spendB spendD; rw [HF.out]; simp)
    go_enter Tryd.func35, Tryd.ntmps35
    go_wp2
    go_ret
    exact ⟨by simp [HP.out.1], by rw [HP.out.2]; exact dsk_put HD.out 1 _ _ rfl rfl, frm_box HD.out.box HD.out.mp (by decide) _ _⟩
  · have h2 : (f == 0) = false := by simp; omega
    have HP := Aside0.mk (show spendB d = true ∧ spendD d = { d with fuse := f - 1 } by unfold spendB spendD; rw [HF.out, if_neg (by omega), if_neg (by omega)]; exact ⟨by simp; omega, rfl⟩)
    go_enter Tryd.func35, Tryd.ntmps35
    go_wp2
    go_ret
    exact ⟨by simp [HP.out.1], by rw [HP.out.2]; exact dsk_put HD.out 2 _ _ rfl rfl, frm_box HD.out.box HD.out.mp (by decide) _ _⟩

theorem secCells_set (rs : List (Value × Value)) (i : Nat) (r : Value × Value) (v : Value) (h : rs[i]? = some r) : (secCells rs).set (i * 2 + 1) v = secCells (rs.set i (r.1, v)) := by
  induction rs generalizing i with
  | nil => simp at h
  | cons s rs ih =>
    have e : secCells (s :: rs) = s.1 :: s.2 :: secCells rs := by simp [secCells, List.flatMap_cons]
    cases i with
    | zero =>
      simp at h; subst h
      simp [secCells, List.flatMap_cons]
    | succ i =>
      rw [e, show (i + 1) * 2 + 1 = i * 2 + 1 + 1 + 1 from by omega, List.set_cons_succ, List.set_cons_succ, ih i (by simpa using h), List.set_cons_succ]
      simp [secCells, List.flatMap_cons]

/-- One version more of a sector: its row turned, then its cell. -/
theorem dsk_loosen {M : Nat → Prop} {w w3 : World} {p g cap : Nat} {rs : List (Value × Value)} {d : Dsk} (h : DskAt M w p g cap rs d) {i : Nat} {r : Value × Value} {s : Sec} {b : List Int} {nv : Value} (hr : rs[i]? = some r) (hs : d.l[i]? = some s)
    (hkeep : ∀ k, k < w.heap.size → some k ≠ r.2.ownBlock → w3.heap[k]? = w.heap[k]?) (hsz : w.heap.size ≤ w3.heap.size)
    (hown : ∃ vs, w3.ownsRow 0 41 1 nv (s.loose.length + 1) vs ∧ ∀ (j : Nat) (b' : List Int), (s.loose ++ [b])[j]? = some b' → ∃ x, vs[j]? = some x ∧ BS w3 x b')
    (hat : r.2.ownBlock = nv.ownBlock ∨ ∀ k, nv.ownBlock = some k → w.heap.size ≤ k) (hb : SecB b) :
    DskAt (Gr M w w3) (w3.setCell ⟨g, i * 2 + 1, none⟩ nv) p g cap (rs.set i (r.1, nv)) { d with l := d.l.modify i fun s => ⟨s.fast, s.loose ++ [b]⟩ } := by
  have hgr : ∃ c, w.heap[g]? = some (.cells c 90 (0, 0)) := (ow_block h.row rfl).2
  obtain ⟨cg, hcg⟩ := hgr
  have hold : ∀ k, r.2.ownBlock = some k → ∃ c, w.heap[k]? = some (.cells c 41 (0, 0)) := fun k hk => by
    obtain ⟨vs, h2, _⟩ := (h.secs i r s hr hs).loose
    exact (ow_block h2 hk).2
  have hne : ∀ (k : Nat) (c : Array Value) (e : Nat) (fz : Nat × Nat), w.heap[k]? = some (.cells c e fz) → e ≠ 41 → w3.heap[k]? = w.heap[k]? := fun k c e fz hk he =>
    hkeep k (heap_lt hk) (fun e2 => by
      obtain ⟨c2, h2⟩ := hold k e2.symm
      rw [h2] at hk
      injection hk with hk; injection hk with _ hk
      exact he hk.symm)
  have hg3 : w3.heap[g]? = some (.cells cg 90 (0, 0)) := (hne g _ _ _ hcg (by decide)).trans hcg
  have hset : ∀ (k : Nat) (c : Array Value) (e : Nat) (fz : Nat × Nat), w3.heap[k]? = some (.cells c e fz) → e ≠ 90 → (w3.setCell ⟨g, i * 2 + 1, none⟩ nv).heap[k]? = w3.heap[k]? := fun k c e fz hk he =>
    Below.heap_setCell _ _ _ _ (fun e2 => by
      subst e2
      rw [hg3] at hk
      injection hk with hk; injection hk with _ hk
      exact he hk.symm)
  have hbs3 : ∀ x b, BS w3 x b → BS (w3.setCell ⟨g, i * 2 + 1, none⟩ nv) x b := fun x b hx => Rd.move hx fun k hk => by
    obtain ⟨c, fz, hc⟩ := Rd.block hx hk
    exact hset k _ _ _ hc (by decide)
  have hbs : ∀ x b, BS w x b → BS w3 x b := fun x b hx => Rd.move hx fun k hk => by
    obtain ⟨c, fz, hc⟩ := Rd.block hx hk
    exact hne k _ _ _ hc (by decide)
  have hlr : i < rs.length := (List.getElem?_eq_some_iff.1 hr).1
  have hll : i < d.l.length := (List.getElem?_eq_some_iff.1 hs).1
  refine ⟨?_, ?_, by simp [h.len], .inl h.mp, .inl h.mg, fun j q s' hj hs' => ?_, fun j1 j2 q1 q2 k h1 h2 h3 h4 => ?_, fun s' hs' => ?_, by simpa using h.few⟩
  · have hp3 := (hne p _ _ _ h.box (by decide)).trans h.box
    rw [(hset p _ _ _ hp3 (by decide)).trans hp3]
    simp [dskCells]
  · have ho : w3.ownsRow 0 90 2 (.slice (some ⟨g, 0, none⟩) d.l.length cap) d.l.length (secCells rs) := ow_move h.row fun k hk => by obtain ⟨_, c, hc⟩ := ow_block h.row hk; exact hne k _ _ _ hc (by decide)
    have := (ho.stored (i * 2 + 1) nv).1
    rw [secCells_set rs i r nv hr] at this
    simpa using this
  · by_cases hji : j = i
    · subst hji
      rw [List.getElem?_set, if_pos rfl, if_pos hlr] at hj
      injection hj with hj
      subst hj
      simp only [List.getElem?_modify, hs] at hs'
      simp at hs'
      subst hs'
      obtain ⟨vs, o1, o2⟩ := hown
      refine ⟨hbs3 _ _ (hbs _ _ (h.secs j r s hr hs).fast), ⟨vs, ?_, fun j2 b' hb' => ?_⟩, fun k hk => ?_⟩
      · simp only [List.length_append, List.length_cons, List.length_nil, Nat.zero_add]
        exact ow_move o1 fun k hk => by obtain ⟨_, c, hc⟩ := ow_block o1 hk; exact hset k _ _ _ hc (by decide)
      · obtain ⟨x, hx, hx2⟩ := o2 j2 b' hb'
        exact ⟨x, hx, hbs3 _ _ hx2⟩
      · have hk : nv.ownBlock = some k := hk
        rcases hat with hat | hat
        · exact .inl ((h.secs j r s hr hs).low k (hat.trans hk))
        · obtain ⟨_, c, hc⟩ := ow_block o1 hk
          exact .inr ⟨hat k hk, heap_lt hc⟩
    · rw [List.getElem?_set, if_neg (fun e => hji e.symm)] at hj
      have hs' : d.l[j]? = some s' := by
        rw [List.getElem?_modify] at hs'
        simpa [show i ≠ j from fun e => hji e.symm] using hs'
      obtain ⟨h1, ⟨vs, h2, h3⟩, h4⟩ := h.secs j q s' hj hs'
      have hmv : ∀ k, q.2.ownBlock = some k → w3.heap[k]? = w.heap[k]? := fun k hk => by
        obtain ⟨_, c, hc⟩ := ow_block h2 hk
        exact hkeep k (heap_lt hc) (fun e => hji (h.apart j i q r k hj hr hk e.symm))
      have h2' := ow_move h2 hmv
      refine ⟨hbs3 _ _ (hbs _ _ h1), ⟨vs, ow_move h2' fun k hk => by obtain ⟨_, c, hc⟩ := ow_block h2' hk; exact hset k _ _ _ hc (by decide), fun j2 b' hb' => ?_⟩, fun k hk => .inl (h4 k hk)⟩
      obtain ⟨x, hx, hx2⟩ := h3 j2 b' hb'
      exact ⟨x, hx, hbs3 _ _ (hbs _ _ hx2)⟩
  · have key : ∀ j q, j ≠ i → rs[j]? = some q → q.2.ownBlock = some k → nv.ownBlock = some k → False := fun j q hji hj hq hn => by
      rcases hat with hat | hat
      · exact hji (h.apart j i q r k hj hr hq (hat.trans hn))
      · have hk := hat k hn
        have hs2 : ∃ s', d.l[j]? = some s' := ⟨_, List.getElem?_eq_getElem (by have := (List.getElem?_eq_some_iff.1 hj).1; have := h.len; omega)⟩
        obtain ⟨s', hs2⟩ := hs2
        obtain ⟨vs, h2, _⟩ := (h.secs j q s' hj hs2).loose
        obtain ⟨_, c, hc⟩ := ow_block h2 hq
        have := heap_lt hc
        omega
    rw [List.getElem?_set] at h1 h2
    by_cases e1 : i = j1
    · by_cases e2 : i = j2
      · omega
      · rw [if_pos e1, if_pos hlr] at h1
        injection h1 with h1; subst h1
        rw [if_neg e2] at h2
        exact (key j2 q2 (fun e => e2 e.symm) h2 h4 h3).elim
    · rw [if_neg e1] at h1
      by_cases e2 : i = j2
      · rw [if_pos e2, if_pos hlr] at h2
        injection h2 with h2; subst h2
        exact (key j1 q1 (fun e => e1 e.symm) h1 h3 h4).elim
      · rw [if_neg e2] at h2
        exact h.apart j1 j2 q1 q2 k h1 h2 h3 h4
  · obtain ⟨j, hj, hjs⟩ := List.getElem_of_mem hs'
    have hjs2 : (d.l.modify i fun s => ⟨s.fast, s.loose ++ [b]⟩)[j]? = some s' := by rw [List.getElem?_eq_getElem hj, hjs]
    rw [List.getElem?_modify] at hjs2
    cases hjd : d.l[j]? with
    | none => rw [hjd] at hjs2; simp at hjs2
    | some s0 =>
      rw [hjd] at hjs2
      have ok0 := h.ok s0 (List.mem_of_getElem? hjd)
      by_cases e : i = j
      · simp [e] at hjs2
        subst hjs2
        exact ⟨ok0.1, fun b' hb' => by
          rcases List.mem_append.1 hb' with h' | h'
          · exact ok0.2 b' h'
          · rw [List.mem_singleton.1 h']; exact hb⟩
      · simp [e] at hjs2
        subst hjs2
        exact ok0

/-- disk.Write. -/
def writeE (d : Dsk) (i : Int) (b : List Int) : Option Nat := if d.off then some 0 else if inD d i then (if b.length = 256 then (if spendB d then none else some 0) else some 2) else some 1
def writeD (d : Dsk) (i : Int) (b : List Int) : Dsk :=
  if d.off then d else if inD d i then (if b.length = 256 then spendD { d with l := d.l.modify i.toNat fun s => ⟨s.fast, s.loose ++ [b]⟩ } else d) else d

/-- What disk.Write comes to. -/
def WritePost (a : Nat → Addr) (M : Nat → Prop) (p : Nat) (d : Dsk) (i : Int) (b : List Int) (w : World) (e : Ending) (w' : World) : Prop :=
  e = .returned (errv a (writeE d i b)) ∧ DskM (Gr M w w') w' p (writeD d i b) ∧ Frm dTurn M w w'

theorem info_bytes2 : (Tryd.prog.info? 41).map (fun i => (i.zero, i.size, i.bytes)) = some (some (.slice none 0 0), 1, 24) := by kernel_rfl

theorem news1_at (W : World) (b : Nat) (hb : W.heap.size = b) (u : Value) (e : Nat) : ∀ j x, [u][j]? = some x → (W.alloc (.cells #[u] e)).cell? ((⟨b, 0, none⟩ : Addr).add j) = some x := by
  subst hb
  intro j x hj
  rw [add_at]
  match j, hj with
  | 0, hj => simp at hj; subst hj; simp
theorem one_sl (A : Option Addr) (n c : Nat) : ∀ u ∈ [Value.slice A n c], u.oneCell' = true := by
  intro u hu; simp at hu; subst hu; rfl
theorem len24 {n : Nat} (h : n ≤ 100000) : (n + 1) * 24 ≤ 140737488355328 := by omega

/-- The fuse is a number. -/
def FuseOk (d : Dsk) : Prop := -1 ≤ d.fuse ∧ d.fuse ≤ 9223372036854775807

set_option maxHeartbeats 4000000 in
set_option maxRecDepth 100000 in
theorem write_disk (a : Nat → Addr) (M : Nat → Prop) (p : Nat) (d : Dsk) (i : Int) (v : Value) (b : List Int) (w : World) (hs : Sents w a) (hO : Out M a) (hd : DskM M w p d) (hb : BS w v b) (hB : IsB b) (hf : FuseOk d) (hfew : ∀ s ∈ d.l, s.loose.length ≤ 100000) :
    Calls Tryd.prog 14 #[.pointer (some ⟨p, 0, none⟩), .int .i64 i, v] w (WritePost a M p d i b w) := by
  have hDM := Aside0.mk hd
  obtain ⟨g, cap, rs, hd⟩ := hd
  obtain ⟨hc0, hc1, hc2⟩ := hd.cells
  have HD := Aside0.mk hd
  have HS := Aside0.mk hs
  have HBS := Aside0.mk hb
  have HIB := Aside0.mk hB
  have HFU := Aside0.mk hf
  have HOUT := Aside0.mk hO
  clear hO
  have HFEW := Aside0.mk (show ∀ s ∈ d.l, ∀ m, s.loose.length = m → m ≤ 100000 from fun s hs m hm => by rw [← hm]; exact hfew s hs)
  clear hfew
  have hg0 : w.cell? ⟨2, 0, none⟩ = some (.iface 163 (.pointer (some (a 0)))) := hs.cell 0 (by decide)
  have hg1 : w.cell? ⟨0, 0, none⟩ = some (.iface 163 (.pointer (some (a 1)))) := hs.cell 1 (by decide)
  have hg2 : w.cell? ⟨3, 0, none⟩ = some (.iface 163 (.pointer (some (a 2)))) := hs.cell 2 (by decide)
  obtain ⟨off, hoff⟩ : ∃ o, d.off = o := ⟨_, rfl⟩
  have HOFF := Aside0.mk hoff
  obtain ⟨A, c, hv, _⟩ := Rd.form hb
  obtain ⟨n, hn⟩ : ∃ n, b.length = n := ⟨_, rfl⟩
  have HN := Aside0.mk hn
  have hn6 : n ≤ 1000000 := by rw [← hn]; exact hb.2.1
  rw [hoff] at hc1
  rw [hn] at hv
  have hat : Aside0 (∃ q : Option Addr, (inD d i = true → q = some ⟨g, i.toNat * 2, none⟩) ∧ (inD d i = false → q = none) ∧ Calls Tryd.prog 33 #[.pointer (some ⟨p, 0, none⟩), .int .i64 i] w fun e w' => e = .returned (.pointer q) ∧ w = w') := by
    refine ⟨?_⟩
    cases hin : inD d i with
    | true => exact ⟨_, fun _ => rfl, fun h => (by cases h), at_in p g _ cap i w hc0 (inD_true hin).1 (inD_true hin).2⟩
    | false => exact ⟨none, fun h => (by cases h), fun _ => rfl, at_out p g _ cap i w hc0 (inD_false hin)⟩
  have hpost : ∀ o, writeE d i b = o → writeD d i b = d → WritePost a M p d i b w (.returned (errv a o)) w := fun o h1 h2 => ⟨by rw [h1], by rw [h2]; exact hDM.out.mono fun k hk => .inl hk, Frm.refl _ _ _⟩
  have HPOST := Aside0.mk hpost
  clear hd hs hb hB hf hoff hc2 hn hc0 hpost
  obtain ⟨q, hq1, hq2, hcall⟩ := hat.out
  have HQ1 := Aside0.mk hq1
  have HQ2 := Aside0.mk hq2
  have HCALL := Aside0.mk hcall
  clear hq1 hq2 hcall hat
  subst hv
  cases off with
  | true =>
    have HR := Aside0.mk (show writeE d i b = some 0 ∧ writeD d i b = d by unfold writeE writeD; simp [HOFF.out])
    go_enter Tryd.func14, Tryd.ntmps14
    go_wp2_with fail
    refine HCALL.out.mono ?_
    rintro e w' ⟨rfl, rfl⟩
    go_wp2_with fail
    go_ret
    exact HPOST.out (some 0) HR.out.1 HR.out.2
  | false =>
    cases hin : inD d i with
    | false =>
      have HR := Aside0.mk (show writeE d i b = some 1 ∧ writeD d i b = d by unfold writeE writeD; simp [HOFF.out, hin])
      have hq := HQ2.out hin
      clear hin
      subst hq
      go_enter Tryd.func14, Tryd.ntmps14
      go_wp2_with fail
      refine HCALL.out.mono ?_
      rintro e w' ⟨rfl, rfl⟩
      go_wp2_with fail
      go_ret
      exact HPOST.out (some 1) HR.out.1 HR.out.2
    | true =>
      have hq := HQ1.out hin
      subst hq
      by_cases hn2 : n = 256
      · subst hn2
        have HIN := Aside0.mk hin
        obtain ⟨i0, i1⟩ := inD_true hin
        obtain ⟨s, hs⟩ : ∃ s, d.l[i.toNat]? = some s := ⟨_, List.getElem?_eq_getElem (by omega)⟩
        obtain ⟨r, hr⟩ : ∃ r, rs[i.toNat]? = some r := ⟨_, List.getElem?_eq_getElem (by have := HD.out.len; omega)⟩
        have hsm := HD.out.secs _ r s hr hs
        obtain ⟨hd0, hd1⟩ := HD.out.sec hr
        have HRS0 := Aside0.mk (And.intro hr hs)
        obtain ⟨fv, lv⟩ := r
        obtain ⟨hfast, ⟨vs, hown, hls⟩, hlow⟩ := hsm
        simp only at hd0 hd1 hfast hown hls hlow
        obtain ⟨m, hm⟩ : ∃ m, s.loose.length = m := ⟨_, rfl⟩
        have HMM := Aside0.mk hm
        have HO := Aside0.mk hown
        have HLS := Aside0.mk hls
        obtain ⟨A', c', rfl, hA'⟩ := ow_slice hown
        have HRS := Aside0.mk (And.intro HRS0.out.1 (And.intro HRS0.out.2 hlow))
        clear HRS0
        have hm5 : m ≤ 100000 := HFEW.out s (List.mem_of_getElem? hs) m hm
        rw [hm] at hd1 HO hA' HRS
        obtain ⟨i00, hii, hzz⟩ := Option.map_eq_some_iff.1 info_bytes2
        simp only [Prod.mk.injEq] at hzz
        obtain ⟨hz0, hz1, hz2⟩ := hzz
        have hgl : g < w.heap.size := by obtain ⟨_, cg, hcg⟩ := ow_block HD.out.row rfl; exact heap_lt hcg
        have hfz : w.frozen? ⟨g, i.toNat * 2 + 1, none⟩ = false := HD.out.row.frozenAt _
        have hgne : some g ≠ (Value.slice A' m c').ownBlock := fun e => by
          obtain ⟨_, cg, hcg⟩ := ow_block HD.out.row rfl
          obtain ⟨_, cl, hcl⟩ := ow_block HO.out e.symm
          rw [hcg] at hcl; injection hcl with hcl; injection hcl with _ hcl
          exact absurd hcl (by decide)
        have HGNE := Aside0.mk hgne
        clear hin hs hr hfast hown hls hlow hm hA' i1 hgne
        go_enter Tryd.func14, Tryd.ntmps14
        go_wp2_with fail
        refine HCALL.out.mono ?_
        rintro e w' ⟨rfl, rfl⟩
        go_wp2_with fail
        go_region_law (first
          | (have hv1k := hv1k; refine step_append_lies _ (by rfl) _ _ 88 (by rfl) 0 41 i00 (.slice none 0 0) 1 24 Tryd.underlying88 hii hz0 hz1 hz2 rfl (by decide) _ m vs (by rfl) (by exact ow_below HO.out (by repeat (first | exact hbb | apply below_drew1 | apply below_alloc))) ⟨w1.heap.size, 0, none⟩ 1 1 [.slice A1 256 c1] (by rfl) rfl (by exact news1_at _ _ (by simp) _ _) (by exact one_sl _ _ _) (by decide) (by exact len_ok hm5) (by exact len24 hm5) (by exact Nat.zero_le _) (w1.heap.size + 1) (by simp) ?_; intro g2 cap2 w3 hown hgr hor hlt3; have hkg : w3.heap[g]? = w.heap[g]? := grown_blk hgr (by exact (show Below w.heap.size w _ by repeat (first | exact hbb | apply below_drew1 | apply below_alloc)).block _ hgl) (by have := hbb.size; simp; omega) (fun k hk e => HGNE.out (by rw [e] at hk; exact hk.symm)); have hs1 : w3.cell? ⟨g, i.toNat * 2 + 1, none⟩ = some (.slice A' m c') := (World.cell?_of_block (w := w) (a := ⟨g, i.toNat * 2 + 1, none⟩) hkg).trans hd1; have hs2 : w3.frozen? ⟨g, i.toNat * 2 + 1, none⟩ = false := (World.frozen?_of_block (w := w) (a := ⟨g, i.toNat * 2 + 1, none⟩) hkg).trans hfz)
          | (go_simp; go_at_call 34; refine (clone_bytes (.slice A 256 c) 256 (b.map (.int .u8)) _ (by have h := HBS.out; unfold BS at h; rw [HN.out] at h; exact h) (fun u hu => by obtain ⟨z, _, rfl⟩ := List.mem_map.1 hu; rfl)).mono ?_; rintro e w1 ⟨v1, rfl, ho, hb⟩; obtain ⟨A1, c1, rfl, hv1k⟩ := ow_slice ho; have hbb : Below w.heap.size w w1 := ⟨hb.os, hb.tape, hb.output, hb.size, hb.block⟩; have hdk : w1.cell? ⟨g, i.toNat * 2 + 1, none⟩ = some (.slice A' m c') := pw_cell_below hbb hd1; have hgl1 : g < w1.heap.size := Nat.lt_of_lt_of_le hgl hbb.size))
        all_goals
          have HOWN := Aside0.mk hown
          have HGR := Aside0.mk hgr
          have HOR := Aside0.mk hor
          have HB := Aside0.mk hbb
          have HO1 := Aside0.mk ho
          have HSZ := Aside0.mk (show w1.heap.size + 1 ≤ w3.heap.size by have := hgr.size; simp at this; omega)
          have HK := Aside0.mk (show ∀ k, k < w1.heap.size → some k ≠ (Value.slice A' m c').ownBlock → w3.heap[k]? = w1.heap[k]? from fun k hk hne => (hgr.block k (by simp; omega) hne).trans ((show Below w1.heap.size w1 _ by repeat (first | exact Below.refl _ _ | apply below_drew1 | apply below_alloc)).block k hk))
          have HF3 := Aside0.mk (show Frm dTurn M w w3 from (Frm.of_below (show Below w.heap.size w _ by repeat (first | exact hbb | apply below_drew1 | apply below_alloc))).grown hgr (fun k hk hlt => ⟨HRS.out.2.2 k hk, by obtain ⟨_, cl, hcl⟩ := ow_block HO.out hk; rw [tag_of hcl]; decide⟩))
          clear hown hgr hor hbb ho hb hii hz0 hz1 hz2
          have HKW := Aside0.mk (show ∀ k, k < w.heap.size → some k ≠ (Value.slice A' m c').ownBlock → w3.heap[k]? = w.heap[k]? from fun k hk hne => (HK.out k (Nat.lt_of_lt_of_le hk HB.out.size) hne).trans (HB.out.block k hk))
          have HD4 := Aside0.mk (dsk_loosen HD.out HRS.out.1 HRS.out.2.1 (b := b) (nv := .slice (some ⟨g2, 0, none⟩) (m + 1) cap2) HKW.out (by have := HSZ.out; have := HB.out.size; omega)
            ⟨_, by rw [HMM.out]; exact HOWN.out, fun j b' hj => by
              have hvl : vs.length = m := by have := HO.out.1; omega
              have hnk : ∀ (k : Nat) (c : Array Value) (fz : Nat × Nat), w1.heap[k]? = some (.cells c 5 fz) → some k ≠ (Value.slice A' m c').ownBlock := fun k c fz hk e => by
                obtain ⟨_, cl, hcl⟩ := ow_block HO.out e.symm
                rw [HB.out.block k (heap_lt hcl), hcl] at hk
                injection hk with hk; injection hk with _ hk
                exact absurd hk (by decide)
              rcases (show j < m ∨ m ≤ j by omega) with hjm | hjm
              · rw [List.getElem?_append_left (by rw [HMM.out]; exact hjm)] at hj
                obtain ⟨x, hx, hxb⟩ := HLS.out j b' hj
                refine ⟨x, by rw [List.getElem?_append_left (by omega)]; exact hx, Rd.move (BS.below hxb HB.out) fun k hk => ?_⟩
                obtain ⟨cc, fz, hcc⟩ := Rd.block (BS.below hxb HB.out) hk
                exact HK.out k (heap_lt hcc) (hnk k _ _ hcc)
              · rw [List.getElem?_append_right (by rw [HMM.out]; exact hjm), HMM.out] at hj
                have hjj : j - m = 0 := by have := (List.getElem?_eq_some_iff.1 hj).1; simp at this; omega
                rw [hjj] at hj
                simp at hj
                subst hj
                refine ⟨.slice A1 256 c1, by rw [List.getElem?_append_right (by omega), hvl, hjj]; rfl, ?_⟩
                unfold BS
                rw [HN.out]
                refine Rd.move (Rd.of_own HO1.out (by omega)) fun k hk => ?_
                obtain ⟨_, cc, hcc⟩ := ow_block HO1.out hk
                exact HK.out k (heap_lt hcc) (hnk k _ _ hcc)⟩
            (by
              rcases HOR.out with h | h
              · exact .inl h
              · refine .inr fun k hk => ?_
                have : g2 = k := by simpa [Value.ownBlock] using hk
                have := HB.out.size
                omega)
            ⟨HN.out, HIB.out⟩)
          obtain ⟨d4, hd4⟩ : ∃ d4, d4 = ({ d with l := d.l.modify i.toNat fun s => ⟨s.fast, s.loose ++ [b]⟩ } : Dsk) := ⟨_, rfl⟩
          have HR := Aside0.mk (show writeD d i b = spendD d4 ∧ writeE d i b = (if spendB d4 then none else some 0) ∧ FuseOk d4 by
            rw [hd4]; unfold writeE writeD; simp only [HOFF.out, HIN.out, HN.out]; exact ⟨by simp, by simp [spendB], HFU.out⟩)
          rw [← hd4] at HD4
          clear hd4
          have HG3 := Aside0.mk (show Frm dTurn M w (w3.setCell ⟨g, i.toNat * 2 + 1, none⟩ (.slice (some ⟨g2, 0, none⟩) (m + 1) cap2)) from HF3.out.set (fun _ => ⟨HD.out.mg, by obtain ⟨_, cg, hcg⟩ := ow_block HD.out.row rfl; rw [tag_of hcg]; decide⟩) _)
          go_wp2_with fail
          refine (spend_disk (Gr M w w3) p g cap _ d4 _ HD4.out HR.out.2.2.1 HR.out.2.2.2).mono ?_
          rintro e w5 ⟨rfl, hd5, hf5⟩
          have HD5 := Aside0.mk hd5
          have HF5 := Aside0.mk (show Frm dTurn M w w5 from HG3.out.transG (hf5.wide (fun _ h => h) (fun k _ hk => by
            rcases hk with hk | ⟨h1, h2⟩
            · exact .inl hk
            · exact .inr ⟨h1, by simpa [World.setCell] using h2⟩)))
          have hg05 : w5.cell? ⟨2, 0, none⟩ = some (.iface 163 (.pointer (some (a 0)))) := (sents_frm HS.out HF5.out HOUT.out).cell 0 (by decide)
          have HGR5 := Aside0.mk (show DskM (Gr M w w5) w5 p (writeD d i b) from ⟨g, cap, _, by
            rw [HR.out.1]
            exact HD5.out.mono fun k hk => by
              rcases hk with hk | ⟨h1, h2⟩
              · exact .inl hk
              · exact .inr ⟨h1, by have := hf5.size; simp [World.setCell] at this; omega⟩⟩)
          clear hd5 hf5
          cases hsp : spendB d4 with
          | true =>
            have HE := Aside0.mk (show writeE d i b = none by rw [HR.out.2.1, hsp]; rfl)
            clear hsp
            go_wp2_with fail
            go_ret
            exact ⟨by rw [HE.out]; rfl, HGR5.out, HF5.out⟩
          | false =>
            have HE := Aside0.mk (show writeE d i b = some 0 by rw [HR.out.2.1, hsp]; rfl)
            clear hsp
            go_wp2_with fail
            go_ret
            exact ⟨by rw [HE.out]; rfl, HGR5.out, HF5.out⟩
      · have HR := Aside0.mk (show writeE d i b = some 2 ∧ writeD d i b = d by unfold writeE writeD; simp [HOFF.out, hin, HN.out, hn2])
        have hn3 : ((n : Int) != 256) = true := by simp; omega
        clear hin
        go_enter Tryd.func14, Tryd.ntmps14
        go_wp2_with fail
        refine HCALL.out.mono ?_
        rintro e w' ⟨rfl, rfl⟩
        go_wp2_with fail
        go_ret
        exact HPOST.out (some 2) HR.out.1 HR.out.2

end Go.Proofs.YtlgpkbhajloajaaDoor.DiskW
/- Records, blocks, a log, a pool, as plain data. No condition. -/
namespace Go.Proofs.YtlgpkbhajloajaaDoor.RecD
open Go.RowKit Go.Proofs.YtlgpkbhajloajaaDoor.See Go.Proofs.YtlgpkbhajloajaaDoor.Mem Go.Proofs.YtlgpkbhajloajaaDoor.Clone Go.Proofs.YtlgpkbhajloajaaDoor.Cell Go.Proofs.YtlgpkbhajloajaaDoor.Page Go.Proofs.YtlgpkbhajloajaaDoor.PageB Go.Proofs.YtlgpkbhajloajaaDoor.PageR Go.Proofs.YtlgpkbhajloajaaDoor.Disk Go.Proofs.YtlgpkbhajloajaaDoor.DiskN Go.Proofs.YtlgpkbhajloajaaDoor.DiskW Go.Proofs.YtlgpkbhajloajaaDoor.PageL
set_option linter.unusedVariables false
set_option linter.unusedSimpArgs false

/-- A record. -/
structure RecV where
  kind : Int
  txn : Int
  page : Int
  prev : Int
  next : Int
  key : Int
  had : Bool
  has : Bool
  old : Int
  new : Int

/-- Its cells. -/
def recL (r : RecV) : List Value := [.int .i64 r.kind, .int .i64 r.txn, .int .i64 r.page, .int .i64 r.prev, .int .i64 r.next, .int .i64 r.key, .bool r.had, .bool r.has, .int .i64 r.old, .int .i64 r.new]
def recA (r : RecV) : Array Value := #[.int .i64 r.kind, .int .i64 r.txn, .int .i64 r.page, .int .i64 r.prev, .int .i64 r.next, .int .i64 r.key, .bool r.had, .bool r.has, .int .i64 r.old, .int .i64 r.new]
theorem recL_one (r : RecV) : ∀ u ∈ recL r, u.oneCell' = true := by
  intro u hu
  simp [recL] at hu
  rcases hu with rfl | rfl | rfl | rfl | rfl | rfl | rfl | rfl | rfl | rfl <;> rfl

def inB (n lo hi : Int) : Bool := decide (lo ≤ n) && decide (n ≤ hi)
def maxLsn : Int := 1073741824

def prevOk (r : RecV) : Bool :=
  if r.kind = 1 ∨ r.kind = 7 ∨ r.kind = 10 then r.prev == 0 else if r.kind = 9 then inB r.prev 1 1073741824 else inB r.prev 0 1073741824
def nextOk (r : RecV) : Bool :=
  if r.kind = 3 ∨ r.kind = 8 then inB r.next 0 1073741824 else if r.kind = 10 then inB r.next 0 60000 else r.next == 0
def rkeyOk (r : RecV) : Bool :=
  if r.kind = 2 ∨ r.kind = 3 then inB r.key 0 1048575 else if r.kind = 8 then inB r.key 0 2 else r.key == 0
def valsOk (r : RecV) : Bool :=
  if (r.has = false ∧ r.new ≠ 0) ∨ (r.had = false ∧ r.old ≠ 0) then false
  else if r.kind = 2 then r.had || r.has
  else if r.kind = 3 then r.had && decide (1 ≤ r.old) && decide (r.old ≤ 1073741824)
  else !r.had && !r.has
def txnMax (r : RecV) : Int := if (1 ≤ r.kind ∧ r.kind ≤ 6) ∨ r.kind = 8 then 60000 else 0
def pageMax (r : RecV) : Int := if r.kind = 2 ∨ r.kind = 3 ∨ r.kind = 9 then 32 else 0
/-- rec.Check. -/
def recOk (r : RecV) : Bool :=
  inB r.kind 1 10 && inB r.txn (min (txnMax r) 1) (txnMax r) && inB r.page (min (pageMax r) 1) (pageMax r) && prevOk r && nextOk r && rkeyOk r && valsOk r
def recE (r : RecV) : Option Nat := if recOk r then none else some 1

def flagsOf (r : RecV) : Int := (if r.had then 1 else 0) + (if r.has then 2 else 0)
/-- What rec.Bytes puts where. -/
def recParts (r : RecV) : List (Int × Int × Int) := [(0, 1, r.kind), (1, 1, flagsOf r), (2, 2, r.txn), (4, 2, r.page), (8, 4, r.prev), (12, 4, r.next), (16, 4, r.key), (24, 8, r.old), (32, 8, r.new)]
def recPart (r : RecV) (i : Nat) : Int × Int × Int := (recParts r).getD i (0, 1, 0)
/-- The first i of them are put. -/
def recN (r : RecV) : Nat → List Int
  | 0 => List.replicate 40 0
  | i + 1 => putL (recN r i) (recPart r i).1.toNat (recPart r i).2.1.toNat (IntKind.u64.wrap (recPart r i).2.2)
/-- A record's bytes. -/
def recBytes (r : RecV) : List Int := recN r 9

/-- Where they stand. -/
theorem recPart_fits (r : RecV) : ∀ i, i < 9 → 0 ≤ (recPart r i).1 ∧ 1 ≤ (recPart r i).2.1 ∧ (recPart r i).2.1 ≤ 8 ∧ (recPart r i).1 + (recPart r i).2.1 ≤ 40 := by
  intro i hi
  match i, hi with
  | 0, _ => simp [recPart, recParts]
  | 1, _ => simp [recPart, recParts]
  | 2, _ => simp [recPart, recParts]
  | 3, _ => simp [recPart, recParts]
  | 4, _ => simp [recPart, recParts]
  | 5, _ => simp [recPart, recParts]
  | 6, _ => simp [recPart, recParts]
  | 7, _ => simp [recPart, recParts]
  | 8, _ => simp [recPart, recParts]

theorem recN_len (r : RecV) : ∀ i, i ≤ 9 → (recN r i).length = 40
  | 0, _ => by simp [recN]
  | i + 1, h => by
    have h1 := recN_len r i (by omega)
    have h2 := recPart_fits r i (by omega)
    rw [recN, putL_length _ _ _ _ (by omega), h1]
theorem recN_isB (r : RecV) : ∀ i, IsB (recN r i)
  | 0 => IsB.zeros _
  | i + 1 => putL_isB (recN_isB r i) _ _ _
theorem recBytes_len (r : RecV) : (recBytes r).length = 40 := recN_len r 9 (by omega)
theorem recBytes_isB (r : RecV) : IsB (recBytes r) := recN_isB r 9

/-- A block's head. -/
def blockHead (epoch : Int) (n : Nat) : List Int := putL (putL ([80, 72, 88, 66] ++ List.replicate 12 0) 4 4 (IntKind.u64.wrap epoch)) 8 2 (IntKind.u64.wrap (n : Int))
theorem isB_head : IsB ([80, 72, 88, 66] ++ List.replicate 12 (0 : Int)) := fun x h => by
  simp at h; omega
theorem blockHead_len (e : Int) (n : Nat) : (blockHead e n).length = 16 := by
  unfold blockHead
  rw [putL_length _ _ _ _ (by rw [putL_length _ _ _ _ (by simp)]; simp), putL_length _ _ _ _ (by simp)]; simp
theorem blockHead_isB (e : Int) (n : Nat) : IsB (blockHead e n) := putL_isB (putL_isB isB_head _ _ _) _ _ _
/-- Bytes, and zeros up to a size. -/
def fillL (b : List Int) (n : Nat) : List Int := b ++ List.replicate (n - b.length) 0
def blockBody (l : List RecV) : List Int := l.flatMap recBytes
theorem blockBody_len (l : List RecV) : (blockBody l).length = 40 * l.length := by
  induction l with
  | nil => rfl
  | cons r l ih => unfold blockBody at ih ⊢; rw [List.flatMap_cons, List.length_append, ih, recBytes_len, List.length_cons]; omega
theorem blockBody_isB (l : List RecV) : IsB (blockBody l) := fun x h => by
  obtain ⟨r, _, hr⟩ := List.mem_flatMap.1 h
  exact recBytes_isB r x hr
/-- Records as a sector. -/
def blockBytes (epoch : Int) (l : List RecV) : List Int := fillL (blockHead epoch l.length ++ blockBody l) 256
theorem blockBytes_ok (e : Int) (l : List RecV) (h : l.length ≤ 6) : SecB (blockBytes e l) := by
  unfold blockBytes fillL SecB
  have : (blockHead e l.length ++ blockBody l).length = 16 + 40 * l.length := by rw [List.length_append, blockHead_len, blockBody_len]
  refine ⟨?_, ((blockHead_isB e _).append (blockBody_isB l)).append (IsB.zeros _)⟩
  rw [List.length_append, this, List.length_replicate]; omega
def blockOk (epoch : Int) (l : List RecV) : Bool := inB epoch 1 1073741824 && decide (1 ≤ l.length) && decide (l.length ≤ 6)
def blockE (epoch : Int) (l : List RecV) : Option Nat := if blockOk epoch l && l.all recOk then none else some 1

/-- A log: its place, its base, its epoch, its records, how many are flushed. -/
structure Lg where
  first : Int
  blocks : Int
  base : Int
  epoch : Int
  l : List RecV
  done : Nat

def Lg.last (L : Lg) : Int := L.base + L.l.length
def Lg.doneN (L : Lg) : Int := L.base + L.done
def Lg.room (L : Lg) : Int := max (min (L.blocks * 6 - L.l.length) (1073741824 - L.last)) 0
/-- A log that may be. -/
structure Lg.Ok (L : Lg) : Prop where
  first : 0 ≤ L.first ∧ L.first ≤ 1000
  blocks : 0 ≤ L.blocks ∧ L.blocks ≤ 1000
  base : 0 ≤ L.base ∧ L.base ≤ 1073741824
  epoch : 1 ≤ L.epoch ∧ L.epoch ≤ 1073741824
  len : (L.l.length : Int) ≤ L.blocks * 6
  last : L.base + L.l.length ≤ 1073741824
  done : L.done ≤ L.l.length
  recs : ∀ r ∈ L.l, recOk r = true

def appendE (L : Lg) (r : RecV) : Option Nat := if recOk r then (if L.room < 1 then some 8 else none) else some 1
def appendN (L : Lg) (r : RecV) : Int := if recOk r then (if L.room < 1 then 0 else L.last + 1) else 0
def appendL (L : Lg) (r : RecV) : Lg := if recOk r then (if L.room < 1 then L else { L with l := L.l ++ [r] }) else L

/-- disk.Sync. -/
def syncE (d : Dsk) : Option Nat := if d.off then some 0 else if spendB d then none else some 0
def fastS (s : Sec) : Sec := ⟨s.last, []⟩
def syncD (d : Dsk) : Dsk := if d.off then d else if spendB d then { spendD d with l := d.l.map fastS } else spendD d

/-- Blocks of a log, written from k on, so many (by fuel). -/
def flushFrom (L : Lg) : Nat → Nat → Dsk → Dsk × Option Nat
  | 0, _, d => (d, none)
  | f + 1, k, d =>
    if k * 6 < L.l.length then
      let b := blockBytes L.epoch ((L.l.drop (k * 6)).take 6)
      match writeE d (L.first + k) b with
      | none => flushFrom L f (k + 1) (writeD d (L.first + k) b)
      | some e => (writeD d (L.first + k) b, some e)
    else (d, none)
/-- wal.Flush. -/
def lflush (L : Lg) (d : Dsk) : Lg × Dsk × Option Nat :=
  if L.done = L.l.length then (L, d, none)
  else match flushFrom L (L.l.length + 1) (L.done / 6) d with
    | (d', some e) => (L, d', some e)
    | (d', none) => match syncE d' with
      | some e => (L, syncD d', some e)
      | none => ({ L with done := L.l.length }, syncD d', none)

end Go.Proofs.YtlgpkbhajloajaaDoor.RecD
/- The contracts of disk.Sync, disk.Fuse, disk.Off. No condition but that api's errors are what their text says. -/
namespace Go.Proofs.YtlgpkbhajloajaaDoor.DiskS
open Go.RowKit Go.Proofs.YtlgpkbhajloajaaDoorW.PrintWords Go.Proofs.YtlgpkbhajloajaaDoorW.PrintLast Go.Proofs.YtlgpkbhajloajaaDoorW.PrintMore
open Go.Proofs.YtlgpkbhajloajaaDoor.See Go.Proofs.YtlgpkbhajloajaaDoor.Mem Go.Proofs.YtlgpkbhajloajaaDoor.Clone Go.Proofs.YtlgpkbhajloajaaDoor.Cell Go.Proofs.YtlgpkbhajloajaaDoor.Page Go.Proofs.YtlgpkbhajloajaaDoor.PageB Go.Proofs.YtlgpkbhajloajaaDoor.PageR Go.Proofs.YtlgpkbhajloajaaDoor.Disk Go.Proofs.YtlgpkbhajloajaaDoor.DiskN Go.Proofs.YtlgpkbhajloajaaDoor.DiskW Go.Proofs.YtlgpkbhajloajaaDoor.RecD
attribute [local go_sem] max2_imax min2_imin max_two min_two
set_option linter.unusedVariables false
set_option linter.unusedSimpArgs false

theorem secCells_set2 (rs : List (Value × Value)) (i : Nat) (x y : Value) (h : i < rs.length) : ((secCells rs).set (i * 2) x).set (i * 2 + 1) y = secCells (rs.set i (x, y)) := by
  induction rs generalizing i with
  | nil => simp at h
  | cons s rs ih =>
    have e : secCells (s :: rs) = s.1 :: s.2 :: secCells rs := by simp [secCells, List.flatMap_cons]
    cases i with
    | zero => simp [secCells, List.flatMap_cons]
    | succ i =>
      rw [e, show (i + 1) * 2 = i * 2 + 1 + 1 from by omega, List.set_cons_succ, List.set_cons_succ, List.set_cons_succ, List.set_cons_succ, ih i (by simpa using h), List.set_cons_succ]
      simp [secCells, List.flatMap_cons]

/-- A sector's last version becomes the fast one. -/
theorem dsk_fast {M : Nat → Prop} {w : World} {p g cap : Nat} {rs : List (Value × Value)} {d : Dsk} (h : DskAt M w p g cap rs d) {i : Nat} {r : Value × Value} {s : Sec} {x : Value} (hr : rs[i]? = some r) (hs : d.l[i]? = some s) (hx : BS w x s.last) :
    DskAt M ((w.setCell ⟨g, i * 2, none⟩ x).setCell ⟨g, i * 2 + 1, none⟩ (.slice none 0 0)) p g cap (rs.set i (x, .slice none 0 0)) { d with l := d.l.set i (fastS s) } := by
  obtain ⟨cg, hcg⟩ : ∃ c, w.heap[g]? = some (.cells c 90 (0, 0)) := (ow_block h.row rfl).2
  have hset : ∀ (k : Nat) (c : Array Value) (e : Nat) (fz : Nat × Nat), w.heap[k]? = some (.cells c e fz) → e ≠ 90 → ((w.setCell ⟨g, i * 2, none⟩ x).setCell ⟨g, i * 2 + 1, none⟩ (.slice none 0 0)).heap[k]? = w.heap[k]? := fun k c e fz hk he => by
    have hkg : k ≠ g := fun e2 => by
      subst e2
      rw [hcg] at hk
      injection hk with hk; injection hk with _ hk
      exact he hk.symm
    rw [Below.heap_setCell _ _ _ _ (by exact hkg), Below.heap_setCell _ _ _ _ (by exact hkg)]
  have hbs : ∀ x' b, BS w x' b → BS ((w.setCell ⟨g, i * 2, none⟩ x).setCell ⟨g, i * 2 + 1, none⟩ (.slice none 0 0)) x' b := fun x' b hx' => Rd.move hx' fun k hk => by
    obtain ⟨c, fz, hc⟩ := Rd.block hx' hk
    exact hset k _ _ _ hc (by decide)
  have hlr : i < rs.length := (List.getElem?_eq_some_iff.1 hr).1
  have hll : i < d.l.length := (List.getElem?_eq_some_iff.1 hs).1
  refine ⟨?_, ?_, by simp [h.len], h.mp, h.mg, fun j q s' hj hs' => ?_, fun j1 j2 q1 q2 k h1 h2 h3 h4 => ?_, fun s' hs' => ?_, by simpa using h.few⟩
  · rw [(hset p _ _ _ h.box (by decide)).trans h.box]
    simp [dskCells]
  · have o1 := (h.row.stored (i * 2) x).1
    have o2 := (o1.stored (i * 2 + 1) (.slice none 0 0)).1
    rw [secCells_set2 rs i x _ hlr] at o2
    simpa using o2
  · by_cases hji : j = i
    · subst hji
      rw [List.getElem?_set, if_pos rfl, if_pos hlr] at hj
      injection hj with hj
      subst hj
      rw [List.getElem?_set, if_pos rfl, if_pos hll] at hs'
      injection hs' with hs'
      subst hs'
      exact ⟨hbs _ _ hx, ⟨[], World.ownsRow_nil _ _ _ _, fun i b hb => by simp [fastS] at hb⟩, fun k hk => by cases hk⟩
    · rw [List.getElem?_set, if_neg (fun e => hji e.symm)] at hj hs'
      obtain ⟨h1, ⟨vs, h2, h3⟩, h4⟩ := h.secs j q s' hj hs'
      refine ⟨hbs _ _ h1, ⟨vs, ow_move h2 fun k hk => by obtain ⟨_, c, hc⟩ := ow_block h2 hk; exact hset k _ _ _ hc (by decide), fun j2 b' hb' => ?_⟩, h4⟩
      obtain ⟨y, hy, hy2⟩ := h3 j2 b' hb'
      exact ⟨y, hy, hbs _ _ hy2⟩
  · rw [List.getElem?_set] at h1 h2
    by_cases e1 : i = j1
    · rw [if_pos e1, if_pos hlr] at h1
      injection h1 with h1; subst h1
      cases h3
    · rw [if_neg e1] at h1
      by_cases e2 : i = j2
      · rw [if_pos e2, if_pos hlr] at h2
        injection h2 with h2; subst h2
        cases h4
      · rw [if_neg e2] at h2
        exact h.apart j1 j2 q1 q2 k h1 h2 h3 h4
  · rcases List.mem_or_eq_of_mem_set hs' with h' | h'
    · exact h.ok s' h'
    · subst h'
      exact ⟨Sec.last_ok (h.ok s (List.mem_of_getElem? hs)), fun b hb => by simp [fastS] at hb⟩

/-- The first i sectors are fast. -/
def syncN (d : Dsk) (i : Nat) : Dsk := { d with l := (d.l.take i).map fastS ++ d.l.drop i }
theorem syncN_zero (d : Dsk) : syncN d 0 = d := by unfold syncN; simp
theorem syncN_all (d : Dsk) : syncN d d.l.length = { d with l := d.l.map fastS } := by unfold syncN; simp
theorem syncN_at (d : Dsk) (i : Nat) (s : Sec) (h : d.l[i]? = some s) : (syncN d i).l[i]? = some s := by
  have hl := (List.getElem?_eq_some_iff.1 h).1
  unfold syncN
  simp only
  rw [List.getElem?_append_right (by rw [List.length_map, List.length_take]; omega), List.length_map, List.length_take, List.getElem?_drop, Nat.min_eq_left (by omega)]
  simpa using h
theorem syncN_succ (d : Dsk) (i : Nat) (s : Sec) (h : d.l[i]? = some s) : { syncN d i with l := (syncN d i).l.set i (fastS s) } = syncN d (i + 1) := by
  obtain ⟨hl, he⟩ := List.getElem?_eq_some_iff.1 h
  unfold syncN
  simp only
  congr 1
  rw [List.set_append_right _ _ (by rw [List.length_map, List.length_take]; omega), List.length_map, List.length_take, Nat.min_eq_left (by omega), Nat.sub_self, List.drop_eq_getElem_cons hl, List.set_cons_zero, List.take_succ_eq_append_getElem hl, List.map_append, he]
  simp
theorem syncN_skip (d : Dsk) (i : Nat) (s : Sec) (h : d.l[i]? = some s) (hs : s.loose = []) : syncN d i = syncN d (i + 1) := by
  obtain ⟨hl, he⟩ := List.getElem?_eq_some_iff.1 h
  unfold syncN
  congr 1
  have hf : fastS s = s := by
    obtain ⟨f, lo⟩ := s
    simp only at hs
    subst hs
    rfl
  rw [List.drop_eq_getElem_cons hl, List.take_succ_eq_append_getElem hl, List.map_append, he]
  simp [hf]
theorem syncN_len (d : Dsk) (i : Nat) : (syncN d i).l.length = d.l.length := by
  unfold syncN; simp; omega

/-- What disk.Sync comes to. -/
def SyncPost (a : Nat → Addr) (M : Nat → Prop) (p : Nat) (d : Dsk) (w : World) (e : Ending) (w' : World) : Prop :=
  e = .returned (errv a (syncE d)) ∧ DskM M w' p (syncD d) ∧ Frm dTurn M w w'

theorem spendD_l (d : Dsk) : (spendD d).l = d.l := by unfold spendD; split <;> (try split) <;> rfl

set_option maxHeartbeats 4000000 in
set_option maxRecDepth 100000 in
theorem sync_disk (a : Nat → Addr) (M : Nat → Prop) (p : Nat) (d : Dsk) (w : World) (hs : Sents w a) (hO : Out M a) (hd : DskM M w p d) (hf : FuseOk d) (hfew : ∀ s ∈ d.l, s.loose.length ≤ 100000) :
    Calls Tryd.prog 53 #[.pointer (some ⟨p, 0, none⟩)] w (SyncPost a M p d w) := by
  have hDM := Aside0.mk hd
  obtain ⟨g, cap, rs, hd⟩ := hd
  obtain ⟨hc0, hc1, hc2⟩ := hd.cells
  have HD := Aside0.mk hd
  have HS := Aside0.mk hs
  have HO := Aside0.mk hO
  have HFU := Aside0.mk hf
  have HFEW := Aside0.mk hfew
  have hg0 : w.cell? ⟨2, 0, none⟩ = some (.iface 163 (.pointer (some (a 0)))) := hs.cell 0 (by decide)
  obtain ⟨off, hoff⟩ : ∃ o, d.off = o := ⟨_, rfl⟩
  have HOFF := Aside0.mk hoff
  rw [hoff] at hc1
  clear hd hs hO hf hoff hfew
  cases off with
  | true =>
    have HR := Aside0.mk (show syncE d = some 0 ∧ syncD d = d by unfold syncE syncD; simp [HOFF.out])
    go_enter Tryd.func53, Tryd.ntmps53
    go_wp2_with fail
    go_ret
    exact ⟨by rw [HR.out.1]; rfl, by rw [HR.out.2]; exact hDM.out, Frm.refl _ _ _⟩
  | false =>
    go_enter Tryd.func53, Tryd.ntmps53
    go_wp2_with fail
    refine (spend_disk M p g cap rs d _ HD.out HFU.out.1 HFU.out.2).mono ?_
    rintro e w1 ⟨rfl, hd1, hf1⟩
    have HD1 := Aside0.mk hd1
    have HF1 := Aside0.mk hf1
    cases hsp : spendB d with
    | false =>
      have hg1 : w1.cell? ⟨2, 0, none⟩ = some (.iface 163 (.pointer (some (a 0)))) := (sents_frm HS.out hf1 HO.out).cell 0 (by decide)
      have HR := Aside0.mk (show syncE d = some 0 ∧ syncD d = spendD d by unfold syncE syncD; simp [HOFF.out, hsp])
      clear hd1 hf1 hsp hc0 hc1 hc2
      go_wp2_with fail
      go_ret
      exact ⟨by rw [HR.out.1]; rfl, by rw [HR.out.2]; exact ⟨g, cap, rs, HD1.out⟩, HF1.out⟩
    | true =>
      have HR := Aside0.mk (show syncE d = none ∧ syncD d = { spendD d with l := (spendD d).l.map fastS } by unfold syncE syncD; simp [HOFF.out, hsp, spendD_l])
      obtain ⟨hc10, hc11, hc12⟩ := hd1.cells
      obtain ⟨d1, hd1e⟩ : ∃ d1, spendD d = d1 := ⟨_, rfl⟩
      have hfew1 : ∀ s ∈ d1.l, s.loose.length ≤ 100000 := by rw [← hd1e, spendD_l]; exact HFEW.out
      rw [hd1e] at HD1 HR hc10
      replace HFEW := Aside0.mk hfew1
      obtain ⟨n, hn⟩ : ∃ n, d1.l.length = n := ⟨_, rfl⟩
      have HN := Aside0.mk hn
      have hn2 : n ≤ 200 := by rw [← hn]; exact HD1.out.few
      rw [hn] at hc10
      clear hd1 hf1 hsp hc0 hc1 hc2 hg0 hc11 hc12 hd1e hfew1 hn
      go_wp2_with fail
      go_loopg [21] (n + 1) (fun kq v21 w' => ∃ (i : Int) (rs' : List (Value × Value)), v21 = .int .i64 i ∧ Aside0 (0 ≤ i ∧ i ≤ n ∧ (kq : Int) = n + 1 - i) ∧ Aside0 (DskAt M w' p g cap rs' (syncN d1 i.toNat)) ∧ Aside0 (Frm dTurn M w w'))
      case atStart => exact ⟨0, _, rfl, ⟨by omega, by omega, by omega⟩, ⟨by rw [show (0 : Int).toNat = 0 from rfl, syncN_zero]; exact HD1.out⟩, HF1⟩
      case round =>
        obtain ⟨i, rs', rfl, HI, HDW, HFW⟩ := hrel
        have hi0 : 0 ≤ i := HI.out.1
        by_cases hlt : i < n
        · obtain ⟨s, hs⟩ : ∃ s, d1.l[i.toNat]? = some s := ⟨_, List.getElem?_eq_getElem (by have := HN.out; omega)⟩
          have hs1 := syncN_at d1 i.toNat s hs
          obtain ⟨r, hr⟩ : ∃ r, rs'[i.toNat]? = some r := ⟨_, List.getElem?_eq_getElem (by have := HDW.out.len; rw [syncN_len] at this; have := HN.out; omega)⟩
          obtain ⟨hcb, _, _⟩ := HDW.out.cells
          rw [syncN_len, HN.out] at hcb
          obtain ⟨fv, lv⟩ := r
          obtain ⟨hfast, ⟨vs, hown, hls⟩, hlow⟩ := HDW.out.secs _ _ s hr hs1
          obtain ⟨hd0, hd1⟩ := HDW.out.sec hr
          simp only at hd0 hd1 hown hfast
          obtain ⟨m, hm⟩ : ∃ m, s.loose.length = m := ⟨_, rfl⟩
          have hm5 : m ≤ 100000 := by rw [← hm]; exact HFEW.out s (List.mem_of_getElem? hs)
          obtain ⟨A', c', rfl, hA'⟩ := ow_slice hown
          rw [hm] at hd1 hown hA'
          have HSS := Aside0.mk (And.intro hs (And.intro hr hs1))
          have HOW := Aside0.mk hown
          have HLS := Aside0.mk hls
          have HMM := Aside0.mk hm
          have hz0 : wr.frozen? ⟨g, i.toNat * 2, none⟩ = false := HDW.out.row.frozenAt _
          have hz1 : wr.frozen? ⟨g, i.toNat * 2 + 1, none⟩ = false := HDW.out.row.frozenAt _
          clear hs hs1 hr hfast hown hls hlow hm
          by_cases hm0 : m = 0
          · have HSK := Aside0.mk (syncN_skip d1 i.toNat s HSS.out.1 (List.eq_nil_of_length_eq_zero (by rw [HMM.out]; exact hm0)))
            subst hm0
            clear hA' hd0
            go_wp2_with fail
            go_roundg (gk - 1)
            case measure => have := HI.out; omega
            case rel => exact ⟨i + 1, rs', rfl, ⟨by omega, by omega, by have := HI.out; omega⟩, ⟨by rw [show (i + 1).toNat = i.toNat + 1 from by omega, ← HSK.out]; exact HDW.out⟩, HFW⟩
          · have hm1 : 0 < m := by omega
            obtain ⟨lg, rfl⟩ : ∃ lg, A' = some ⟨lg, 0, none⟩ := by
              obtain ⟨g', c2, he, _⟩ := HOW.out.form hm1
              injection he with he1
              exact ⟨g', he1⟩
            obtain ⟨b, hb⟩ : ∃ b, s.loose[m - 1]? = some b := ⟨_, List.getElem?_eq_getElem (by have := HMM.out; omega)⟩
            obtain ⟨x, hx, hbx⟩ := HLS.out _ b hb
            have HL := Aside0.mk (show s.last = b by unfold Sec.last; rw [List.getLast?_eq_getElem?, HMM.out, hb]; rfl)
            have HBX := Aside0.mk hbx
            have hcx : wr.cell? ⟨lg, m - 1, none⟩ = some x := by rw [HOW.out.cellAt _ (by omega)]; exact hx
            obtain ⟨xA, xc, hxv, _⟩ := Rd.form hbx
            have hgt : decide ((m : Int) > 0) = true := decide_eq_true (by omega)
            obtain ⟨mm, hmm⟩ : ∃ mm : Int, (m : Int) = mm := ⟨_, rfl⟩
            have h1m : 1 ≤ mm := by omega
            have hm6 : mm ≤ 100000 := by omega
            have htn : (mm - 1).toNat = m - 1 := by omega
            have htn2 : mm.toNat - 1 = m - 1 := by omega
            have hnl : mm - 1 < mm := by omega
            have h0m : 0 < mm := by omega
            have hnm : ¬ mm ≤ 0 := by omega
            rw [hmm] at hgt
            clear hb hx hbx hA'
            subst hxv
            go_wp2_with fail
            go_roundg (gk - 1)
            case measure => have := HI.out; omega
            case rel =>
              obtain ⟨s1, s2, s3⟩ := HSS.out
              refine ⟨i + 1, rs'.set i.toNat (.slice xA b.length xc, .slice none 0 0), rfl, ⟨by omega, by omega, by have := HI.out; omega⟩, ⟨?_⟩, ⟨?_⟩⟩
              · have h := dsk_fast HDW.out s2 s3 (by rw [HL.out]; exact HBX.out)
                rw [syncN_succ d1 i.toNat s s1] at h
                rw [show (i + 1).toNat = i.toNat + 1 from by omega]
                exact h
              · obtain ⟨_, cg, hcg⟩ := ow_block HDW.out.row rfl
                have hg : ∀ (W : World), Frm dTurn M w W → g < w.heap.size → tag w g ∈ dTurn := fun W hW hlt => by
                  by_cases hk : w.heap[g]? = wr.heap[g]?
                  · rw [tag_eq hk.symm |>.symm, tag_of hcg]; decide
                  · exact Classical.byContradiction fun hn => hk (HFW.out.block g hlt (fun _ => hn)).symm
                exact (HFW.out.set (fun hlt => ⟨HDW.out.mg, hg _ HFW.out hlt⟩) _).set (fun hlt => ⟨HDW.out.mg, hg _ HFW.out hlt⟩) _
        · have HALL := Aside0.mk (show syncN d1 i.toNat = syncD d by
            rw [HR.out.2, show i.toNat = d1.l.length from by have := HI.out; have := HN.out; omega, syncN_all])
          go_wp2_with fail
          go_ret
          exact ⟨by rw [HR.out.1]; rfl, ⟨g, cap, rs', by rw [← HALL.out]; exact HDW.out⟩, HFW.out⟩

theorem put_fuse {M : Nat → Prop} {w : World} {p : Nat} {d : Dsk} (h : DskM M w p d) (n : Int) : DskM M (w.setCell ⟨p, 2, none⟩ (.int .i64 n)) p { d with fuse := n } ∧ Frm dTurn M w (w.setCell ⟨p, 2, none⟩ (.int .i64 n)) := by
  obtain ⟨g, cap, rs, h⟩ := h
  exact ⟨⟨g, cap, rs, dsk_put h 2 _ _ rfl rfl⟩, frm_box h.box h.mp (by decide) _ _⟩



end Go.Proofs.YtlgpkbhajloajaaDoor.DiskS
