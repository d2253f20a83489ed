/- Joined texts: GoodD, FlushG, DirtD. -/
import Derived.Test.YtlgpkbhajloajaaDoorJ4
import Derived.Test.YtlgpkbhajloajaaDoorJ5
import Derived.Test.YtlgpkbhajloajaaDoorJ6
/- A disk that has power and no fuse: plain data. No condition. -/
namespace Go.Proofs.YtlgpkbhajloajaaDoor.GoodD
open Go.RowKit Go.Proofs.YtlgpkbhajloajaaDoor.See Go.Proofs.YtlgpkbhajloajaaDoor.Mem Go.Proofs.YtlgpkbhajloajaaDoor.Clone Go.Proofs.YtlgpkbhajloajaaDoor.Cell Go.Proofs.YtlgpkbhajloajaaDoor.Page Go.Proofs.YtlgpkbhajloajaaDoor.PageB Go.Proofs.YtlgpkbhajloajaaDoor.PageR Go.Proofs.YtlgpkbhajloajaaDoor.PageL Go.Proofs.YtlgpkbhajloajaaDoor.Disk Go.Proofs.YtlgpkbhajloajaaDoor.DiskN Go.Proofs.YtlgpkbhajloajaaDoor.DiskW Go.Proofs.YtlgpkbhajloajaaDoor.RecD Go.Proofs.YtlgpkbhajloajaaDoor.Dirty Go.Proofs.YtlgpkbhajloajaaDoor.SysD Go.Proofs.YtlgpkbhajloajaaDoor.WalF
set_option linter.unusedVariables false
set_option linter.unusedSimpArgs false

/-- A disk of so many sectors, with power, without a fuse. -/
structure Good (d : Dsk) (n : Nat) : Prop where
  on : d.off = false
  fuse : d.fuse = -1
  len : d.l.length = n

theorem Good.inD {d : Dsk} {n : Nat} (h : Good d n) {i : Int} (h0 : 0 ≤ i) (h1 : i < n) : inD d i = true := by unfold Disk.inD; simp [h.len]; omega
theorem Good.spendB {d : Dsk} {n : Nat} (h : Good d n) : spendB d = true := by unfold DiskW.spendB; rw [h.fuse]; decide
theorem Good.spendD {d : Dsk} {n : Nat} (h : Good d n) : spendD d = d := by unfold DiskW.spendD; rw [h.fuse]; simp

theorem readV_eq {d : Dsk} {i : Int} (ho : d.off = false) : readV d i = if 0 ≤ i then ((d.l[i.toNat]?).map Sec.last).getD [] else [] := by
  by_cases h0 : 0 ≤ i
  · rw [if_pos h0]
    by_cases h1 : i < d.l.length
    · have hl : i.toNat < d.l.length := by omega
      rw [(readE_in ho (by unfold Disk.inD; simp; omega) (List.getElem?_eq_getElem hl)).2, List.getElem?_eq_getElem hl]
      rfl
    · rw [(readE_out ho (by unfold Disk.inD; simp; omega)).2, List.getElem?_eq_none (by omega)]
      rfl
  · rw [if_neg h0, (readE_out ho (by unfold Disk.inD; simp; omega)).2]

theorem Good.readE {d : Dsk} {n : Nat} (h : Good d n) {i : Int} (h0 : 0 ≤ i) (h1 : i < n) : readE d i = none :=
  (readE_in h.on (h.inD h0 h1) (List.getElem?_eq_getElem (by rw [h.len]; omega))).1

theorem Good.write {d : Dsk} {n : Nat} (h : Good d n) {i : Int} {b : List Int} (h0 : 0 ≤ i) (h1 : i < n) (hb : b.length = 256) :
    writeE d i b = none ∧ Good (writeD d i b) n ∧ ∀ j, readV (writeD d i b) j = if j = i then b else readV d j := by
  have hd : writeD d i b = { d with l := d.l.modify i.toNat fun s => ⟨s.fast, s.loose ++ [b]⟩ } := by
    unfold writeD
    rw [if_neg (by rw [h.on]; decide), if_pos (h.inD h0 h1), if_pos hb]
    exact Good.spendD (n := n) ⟨h.on, h.fuse, by rw [List.length_modify]; exact h.len⟩
  refine ⟨?_, ?_, fun j => ?_⟩
  · unfold writeE
    rw [if_neg (by rw [h.on]; decide), if_pos (h.inD h0 h1), if_pos hb, if_pos h.spendB]
  · rw [hd]
    exact ⟨h.on, h.fuse, by rw [List.length_modify]; exact h.len⟩
  · rw [hd, readV_eq (by exact h.on), readV_eq h.on]
    simp only
    by_cases hj : j = i
    · subst hj
      rw [if_pos h0, if_pos rfl, List.getElem?_modify, List.getElem?_eq_getElem (show j.toNat < d.l.length by rw [h.len]; omega)]
      simp [Sec.last]
    · rw [if_neg hj]
      by_cases hj0 : 0 ≤ j
      · have hne : ¬ i.toNat = j.toNat := by omega
        rw [if_pos hj0, if_pos hj0, List.getElem?_modify]
        simp [hne]
      · rw [if_neg hj0, if_neg hj0]

theorem Good.sync {d : Dsk} {n : Nat} (h : Good d n) : syncE d = none ∧ Good (syncD d) n ∧ ∀ j, readV (syncD d) j = readV d j := by
  have hd : syncD d = { d with l := d.l.map fastS } := by
    unfold syncD
    rw [if_neg (by rw [h.on]; decide), if_pos h.spendB, h.spendD]
  refine ⟨?_, ?_, fun j => ?_⟩
  · unfold syncE
    rw [if_neg (by rw [h.on]; decide), if_pos h.spendB]
  · rw [hd]
    exact ⟨h.on, h.fuse, by rw [List.length_map]; exact h.len⟩
  · rw [hd, readV_eq (by exact h.on), readV_eq h.on]
    simp only [List.getElem?_map, Option.map_map]
    rfl

theorem Good.from {n : Nat} {L : Lg} (hL : 0 ≤ L.first) (hr : L.first * 6 + L.l.length ≤ n * 6) : ∀ (f k : Nat) (d : Dsk), Good d n → (flushFrom L f k d).2 = none ∧ Good (flushFrom L f k d).1 n ∧ ∀ j, j < L.first → readV (flushFrom L f k d).1 j = readV d j
  | 0, k, d, h => ⟨rfl, h, fun _ _ => rfl⟩
  | f + 1, k, d, h => by
    unfold flushFrom
    by_cases hk : k * 6 < L.l.length
    · rw [if_pos hk]
      obtain ⟨h1, h2, h3⟩ := h.write (i := L.first + k) (b := blockBytes L.epoch ((L.l.drop (k * 6)).take 6)) (by omega) (by omega) (blockBytes_ok _ _ (by rw [List.length_take]; omega)).1
      simp only [h1]
      obtain ⟨g1, g2, g3⟩ := Good.from hL hr f (k + 1) _ h2
      exact ⟨g1, g2, fun j hj => by rw [g3 j hj, h3 j, if_neg (by omega)]⟩
    · rw [if_neg hk]
      exact ⟨rfl, h, fun _ _ => rfl⟩

/-- A log that is flushed onto it. -/
theorem Good.lflush {n : Nat} {L : Lg} {d : Dsk} (h : Good d n) (hL : 0 ≤ L.first) (hr : L.first * 6 + L.l.length ≤ n * 6) (hd : L.done ≤ L.l.length) :
    (lflush L d).1 = { L with done := L.l.length } ∧ (lflush L d).2.2 = none ∧ Good (lflush L d).2.1 n ∧ ∀ j, j < L.first → readV (lflush L d).2.1 j = readV d j := by
  unfold RecD.lflush
  by_cases he : L.done = L.l.length
  · rw [if_pos he]
    exact ⟨by rw [← he], rfl, h, fun _ _ => rfl⟩
  · rw [if_neg he]
    obtain ⟨g1, g2, g3⟩ := Good.from hL hr (L.l.length + 1) (L.done / 6) d h
    obtain ⟨q, hq⟩ : ∃ q, flushFrom L (L.l.length + 1) (L.done / 6) d = q := ⟨_, rfl⟩
    rw [hq] at g1 g2 g3 ⊢
    obtain ⟨d', o⟩ := q
    simp only at g1 g2 g3
    subst g1
    obtain ⟨s1, s2, s3⟩ := g2.sync
    simp only [s1]
    refine ⟨by simp, by simp, s2, fun j hj => by rw [s3, g3 j hj]⟩

end Go.Proofs.YtlgpkbhajloajaaDoor.GoodD
/- pool.Flush over a disk that has power and no fuse: plain data. No condition. -/
namespace Go.Proofs.YtlgpkbhajloajaaDoor.FlushG
open Go.RowKit Go.Proofs.YtlgpkbhajloajaaDoor.See Go.Proofs.YtlgpkbhajloajaaDoor.Mem Go.Proofs.YtlgpkbhajloajaaDoor.Clone Go.Proofs.YtlgpkbhajloajaaDoor.Cell Go.Proofs.YtlgpkbhajloajaaDoor.Page Go.Proofs.YtlgpkbhajloajaaDoor.PageB Go.Proofs.YtlgpkbhajloajaaDoor.PageR Go.Proofs.YtlgpkbhajloajaaDoor.PageL Go.Proofs.YtlgpkbhajloajaaDoor.Disk Go.Proofs.YtlgpkbhajloajaaDoor.DiskN Go.Proofs.YtlgpkbhajloajaaDoor.DiskW Go.Proofs.YtlgpkbhajloajaaDoor.RecD Go.Proofs.YtlgpkbhajloajaaDoor.Dirty Go.Proofs.YtlgpkbhajloajaaDoor.SysD Go.Proofs.YtlgpkbhajloajaaDoor.SysM Go.Proofs.YtlgpkbhajloajaaDoor.Wal Go.Proofs.YtlgpkbhajloajaaDoor.WalF Go.Proofs.YtlgpkbhajloajaaDoor.GoodD Go.Proofs.YtlgpkbhajloajaaDoor.PoolS
set_option linter.unusedVariables false
set_option linter.unusedSimpArgs false

/-- Flush of a page that is here and dirty. -/
theorem flush_good {S : PSys} {n : Nat} {k : Int} {f : Fp} (hg : GoodD.Good S.d n) (hf : findP S.here k = some f) (h0 : 0 ≤ k) (h1 : k < n) (ht : has S.t k = true) (hL : 0 ≤ S.l.first) (hr : S.l.first * 6 + S.l.l.length ≤ n * 6) (hd : S.l.done ≤ S.l.l.length) (hes : f.es.length ≤ 20) :
    ∃ S', flushS S k = (S', none) ∧ GoodD.Good S'.d n ∧ (∀ j, j < S.l.first → readV S'.d j = if j = k then pageBytes f.lsn f.es else readV S.d j) ∧ S'.t = dropT S.t k ∧ S'.here = S.here ∧ S'.frames = S.frames ∧ S'.l = (if S.l.doneN < f.lsn then { S.l with done := S.l.l.length } else S.l) ∧ (∀ m, FuseOk S.d → LooseLe S.d m → LooseLe S'.d (m + S.l.l.length + 2)) := by
  unfold flushS
  rw [hf]
  simp only [ht, Bool.true_eq_false, if_false]
  by_cases hdl : S.l.doneN < f.lsn
  · rw [if_pos hdl, if_pos hdl]
    obtain ⟨a1, a2, a3, a4⟩ := hg.lflush hL hr hd
    obtain ⟨w1, w2, w3⟩ := a3.write (i := k) (b := pageBytes f.lsn f.es) h0 h1 (pageBytes_ok _ _ hes).1
    simp only [a2, w1]
    refine ⟨_, rfl, w2, fun j hj => ?_, rfl, rfl, rfl, a1, fun m hfu hlo => ?_⟩
    · rw [w3 j, a4 j hj]
    · have := writeD_loose k (pageBytes f.lsn f.es) (lflush_ok (L := S.l) hfu hlo).2.1
      exact this.mono (by omega)
  · rw [if_neg hdl, if_neg hdl]
    obtain ⟨w1, w2, w3⟩ := hg.write (i := k) (b := pageBytes f.lsn f.es) h0 h1 (pageBytes_ok _ _ hes).1
    simp only [w1]
    refine ⟨_, rfl, w2, fun j hj => w3 j, rfl, rfl, rfl, rfl, fun m hfu hlo => ?_⟩
    exact (writeD_loose k (pageBytes f.lsn f.es) hlo).mono (by omega)

/-- A record that is appended to a log that has room. -/
theorem append_room {L : Lg} {r : RecV} (hr : recOk r = true) (hm : 1 ≤ L.room) : appendE L r = none ∧ appendN L r = L.last + 1 ∧ appendL L r = { L with l := L.l ++ [r] } := by
  unfold appendE appendN appendL
  rw [if_pos hr, if_pos hr, if_pos hr, if_neg (by omega), if_neg (by omega), if_neg (by omega)]
  exact ⟨rfl, rfl, rfl⟩

/-- A system whose log alone turned. -/
theorem sys_log {M : Nat → Prop} {w w' : World} {pp lp dp : Nat} {S : PSys} {L' : Lg} (x : SysM M w pp lp dp S) (hl : ∃ v, LogM (Gr M w w') w' lp dp v L') (hf : Frm lTurn M w w') : SysM (Gr M w w') w' pp lp dp { S with l := L' } ∧ Frm sTurn M w w' := by
  have h2 : Frm (dTurn ++ lTurn) M w w' := frm_app2 hf
  exact ⟨x.logd ((x.dsk.frm hf (by decide)).mono fun k hk => .inl hk) hl h2 x.fuse, frm_sys2 h2⟩

end Go.Proofs.YtlgpkbhajloajaaDoor.FlushG
/- PoolDirty's rounds as plain data. No condition. -/
namespace Go.Proofs.YtlgpkbhajloajaaDoor.DirtD
open Go.RowKit Go.Proofs.YtlgpkbhajloajaaDoor.See Go.Proofs.YtlgpkbhajloajaaDoor.Mem Go.Proofs.YtlgpkbhajloajaaDoor.Clone Go.Proofs.YtlgpkbhajloajaaDoor.Cell Go.Proofs.YtlgpkbhajloajaaDoor.Page Go.Proofs.YtlgpkbhajloajaaDoor.PageB Go.Proofs.YtlgpkbhajloajaaDoor.PageR Go.Proofs.YtlgpkbhajloajaaDoor.PageL Go.Proofs.YtlgpkbhajloajaaDoor.Disk Go.Proofs.YtlgpkbhajloajaaDoor.DiskN Go.Proofs.YtlgpkbhajloajaaDoor.DiskW Go.Proofs.YtlgpkbhajloajaaDoor.RecD Go.Proofs.YtlgpkbhajloajaaDoor.Dirty Go.Proofs.YtlgpkbhajloajaaDoor.SysD Go.Proofs.YtlgpkbhajloajaaDoor.SysM Go.Proofs.YtlgpkbhajloajaaDoor.Wal Go.Proofs.YtlgpkbhajloajaaDoor.WalF Go.Proofs.YtlgpkbhajloajaaDoor.GoodD Go.Proofs.YtlgpkbhajloajaaDoor.PoolS Go.Proofs.YtlgpkbhajloajaaDoor.FlushG Go.Proofs.YtlgpkbhajloajaaDoor.Fresh
set_option linter.unusedVariables false
set_option linter.unusedSimpArgs false

/-- The record that is appended. -/
def r0 : RecV := ⟨7, 0, 0, 0, 0, 0, false, false, 0, 0⟩
theorem r0_ok : recOk r0 = true := by decide

/-- At the start of round i. -/
structure DSt (i fm : Int) (S : PSys) : Prop where
  good : GoodD.Good S.d 20
  frames : S.frames = 2
  here : ∃ x, S.here = [⟨3, x, []⟩]
  t : S.t = if fm = 0 then [] else [(3, fm)]
  log : S.l.first = 10 ∧ S.l.blocks = 9 ∧ S.l.base = 0
  len : (S.l.l.length : Int) = i - 1
  done : S.l.done ≤ S.l.l.length
  fr : 0 ≤ fm
  loose : LooseLe S.d (30 * i.toNat)

theorem zgood : GoodD.Good (zdisk 20) 20 := ⟨rfl, rfl, by simp [zdisk]⟩

theorem start : DSt 1 0 { sys0 20 10 9 2 with here := [⟨3, 0, []⟩] } :=
  ⟨zgood, rfl, ⟨0, rfl⟩, rfl, ⟨rfl, rfl, rfl⟩, rfl, Nat.le_refl _, Int.le_refl _, zdisk_loose _ _⟩

def S1 (S : PSys) : PSys := { S with l := { S.l with l := S.l.l ++ [r0] } }
def S2 (i fm : Int) (S : PSys) : PSys := { S1 S with here := [⟨3, i, []⟩], t := [(3, if fm = 0 then i else fm)] }

theorem step_append {i fm : Int} {S : PSys} (h : DSt i fm S) (h1 : 1 ≤ i) (h2 : i ≤ 21) : appendE S.l r0 = none ∧ appendN S.l r0 = i ∧ appendL S.l r0 = (S1 S).l := by
  have hl := h.len
  obtain ⟨l1, l2, l3⟩ := h.log
  obtain ⟨a1, a2, a3⟩ := append_room (L := S.l) r0_ok (by unfold Lg.room Lg.last; rw [l2, l3]; omega)
  exact ⟨a1, by rw [a2]; unfold Lg.last; rw [l3]; omega, a3⟩

theorem step_set {i fm : Int} {S : PSys} (h : DSt i fm S) (h1 : 1 ≤ i) (h2 : i ≤ 21) : setS (S1 S) 3 i [] = (S2 i fm S, none) := by
  obtain ⟨x, hx⟩ := h.here
  have hh : (S1 S).here = [⟨3, x, []⟩] := hx
  have hp : pageOk i [] = true := by unfold pageOk headOk; simp; omega
  rw [setS_ok (f := ⟨3, x, []⟩) (by rw [hh]; rfl) hp]
  have ht : addT (S1 S).t 3 i = [(3, if fm = 0 then i else fm)] := by
    show addT S.t 3 i = _
    rw [h.t]
    by_cases hf : fm = 0
    · rw [if_pos hf, if_pos hf]; rfl
    · rw [if_neg hf, if_neg hf]
      unfold addT
      rw [show has [((3 : Int), fm)] 3 = true from rfl]
      rfl
  unfold S2
  rw [ht, hh]
  rfl

theorem step_two {i fm : Int} {S : PSys} (h : DSt i fm S) (h1 : 1 ≤ i) (h2 : i ≤ 21) : DSt (i + 1) (if fm = 0 then i else fm) (S2 i fm S) := by
  have hf := h.fr
  have hne : ¬ (if fm = 0 then i else fm) = 0 := by split <;> omega
  refine ⟨h.good, h.frames, ⟨i, rfl⟩, by rw [if_neg hne]; rfl, h.log, ?_, ?_, by split <;> omega, h.loose.mono (by omega)⟩
  · have := h.len
    show (((S.l.l ++ [r0]).length : Nat) : Int) = _
    rw [List.length_append]; simp; omega
  · have := h.done
    show S.l.done ≤ (S.l.l ++ [r0]).length
    rw [List.length_append]; omega

theorem step_flush {i fm : Int} {S : PSys} (h : DSt i fm S) (h1 : 1 ≤ i) (h2 : i ≤ 21) (hfu : FuseOk S.d) : ∃ S3, flushS (S2 i fm S) 3 = (S3, none) ∧ DSt (i + 1) 0 S3 ∧ S3.t = [] ∧ S3.l.doneN = i ∧ readE S3.d 3 = none ∧ readV S3.d 3 = pageBytes i [] := by
  have h3 := step_two h h1 h2
  obtain ⟨l1, l2, l3⟩ := h3.log
  have hl := h3.len
  have hdn : (S2 i fm S).l.doneN < i := by
    unfold Lg.doneN
    have := h.done
    have := h.len
    have e1 : (S2 i fm S).l.base = 0 := l3
    have e2 : (S2 i fm S).l.done = S.l.done := rfl
    rw [e1, e2]
    omega
  obtain ⟨S3, f1, f2, f3, f4, f5, f6, f7, f8⟩ := flush_good (S := S2 i fm S) (k := 3) (f := ⟨3, i, []⟩) h3.good rfl (by decide) (by decide) rfl (by rw [l1]; decide) (by rw [l1]; omega) h3.done (by simp)
  rw [if_pos hdn] at f7
  have hdone : S3.l.done = (S2 i fm S).l.l.length := by rw [f7]
  have hll : S3.l.l = (S2 i fm S).l.l := by rw [f7]
  refine ⟨S3, f1, ⟨f2, by rw [f6]; exact h3.frames, ⟨i, by rw [f5]; rfl⟩, by rw [f4]; rfl, by rw [f7]; exact h3.log, by rw [hll]; exact hl, by rw [hdone, hll]; exact Nat.le_refl _, Int.le_refl _, ?_⟩, by rw [f4]; rfl, ?_, f2.readE (by decide) (by decide), ?_⟩
  · exact (f8 (30 * i.toNat) hfu h.loose).mono (by omega)
  · unfold Lg.doneN
    rw [hdone, f7]
    show (S2 i fm S).l.base + _ = _
    rw [l3]
    omega
  · rw [f3 3 (by rw [l1]; decide), if_pos rfl]

end Go.Proofs.YtlgpkbhajloajaaDoor.DirtD
