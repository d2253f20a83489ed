/- Joined texts: TwiceD, RecsD, ValD, LockG, FwdQ, BackQ, FullD, CkptD, MasC. No condition but what each says. -/
import Derived.Test.YtaplpeoikebedaaGreatDoorV33
import Derived.Test.YtaplpeoikebedaaGreatDoorV31
import Derived.Test.YtaplpeoikebedaaGreatDoorV26
import Derived.Test.YtaplpeoikebedaaGreatDoorV19
import Derived.Test.YtaplpeoikebedaaGreatDoorV10
import Derived.Test.YtaplpeoikebedaaGreatDoorV9
set_option maxHeartbeats 8000000
set_option maxRecDepth 100000
set_option linter.unusedVariables false
set_option linter.unusedSimpArgs false
namespace Go.Proofs.YtaplpeoikebedaaGreatDoor.TwiceD
open Go.RowKit See Mem Page PageB PageR PageL Disk DiskW RecD Dirty Wal WalF PoolG PoolS SysD SysM Fresh FlushG Pager StoreD PageM StoreF StoreG StoreH StoreI StoreJ StoreK StoreV StoreW LockT LockU BackD BackL BackA
end Go.Proofs.YtaplpeoikebedaaGreatDoor.TwiceD
namespace Go.Proofs.YtaplpeoikebedaaGreatDoor.RecsD
open Go.RowKit See Mem Page PageB PageR PageL Disk DiskW RecD Dirty Dirty2 SysD SysM Wal WalF GoodD PoolG PoolS FlushG Fresh DirtD TabL Pager StoreD PageM StoreF StoreG StoreH TransT LockT LockU StoreI StoreJ StoreK RoomD
end Go.Proofs.YtaplpeoikebedaaGreatDoor.RecsD
namespace Go.Proofs.YtaplpeoikebedaaGreatDoor.ValD
open Go.RowKit See Mem Page PageB PageR PageL Disk DiskW RecD Dirty Dirty2 Wal WalF PoolG PoolS SysD SysM Fresh FlushG TabL Pager StoreD PageM StoreF StoreG StoreH StoreI StoreJ StoreV StoreW LockT LockU BackD BackL BackA
def PgK (F : FS) : Prop := ∀ p, 1 ≤ p → p ≤ F.P → ∀ e ∈ (cur F.S p).2, placeOf e.1 F.P = p
theorem pgk_takes {N m : Nat} {ch : Int → List Int} {kp : Int → Int} {F : FS} (h : FOk N m ch kp F) (hk : PgK F) (n key md hint : Int) : PgK (takesF F n key md hint) := by
  obtain ⟨p1, p2⟩ := placeOf_in key h.g.pg.pages
  obtain ⟨S', e1, e2, e3, e4⟩ := get_ok h hint p1 p2
  have hF : (takesF F n key md hint).S = S' := by unfold takesF; rw [e1]
  intro p a b e he
  rw [hF, e3.cur p a b] at he
  exact hk p a b e he
theorem redo_mem {es : List (Int × Int)} {r : RecV} (hr : Rising es) {e : Int × Int} (he : e ∈ redoE es r) : e.1 = r.key ∨ e ∈ es := by
  unfold redoE at he
  split at he
  · rcases (mem_put hr e).1 he with rfl | ⟨h, _⟩
    · exact .inl rfl
    · exact .inr h
  · exact .inr ((mem_drop hr e).1 he).1
theorem set_cur {N m : Nat} {F : FS} {id key : Int} {had has : Bool} {old new : Int} {f : Fp} (hg : GOk N m F) (hf : findP F.S.here (placeOf key F.P) = some f) (hr : recOk (recSet (tget F.ts id) F.P key had old has new) = true) (h6 : is64 old ∧ is64 new) (hk : 0 ≤ key ∧ key < 1048576) (hl : (redoE (cur F.S (placeOf key F.P)).2 (recSet (tget F.ts id) F.P key had old has new)).length ≤ 20) (hfr : 2 ≤ F.free) :
    ∀ j, cur (setF F id key had old has new).S j = if j = placeOf key F.P then (F.S.l.last + 1, redoE (cur F.S (placeOf key F.P)).2 (recSet (tget F.ts id) F.P key had old has new)) else cur F.S j := by
  obtain ⟨ro1, ro2, ro3⟩ := hg.room
  obtain ⟨c1, c2, c3, c4, c5⟩ := chg_ok (r := recSet (tget F.ts id) F.P key had old has new) (fr := F.free - 2) (kp := F.kept + 1) hg hf hr h6 hk (by omega) hl (by omega) (by omega) (by omega)
  exact fun j => c4 j
theorem pgk_set {N m : Nat} {F : FS} {id key : Int} {had has : Bool} {old new : Int} {f : Fp} (hg : GOk N m F) (hK : PgK F) (hf : findP F.S.here (placeOf key F.P) = some f) (hr : recOk (recSet (tget F.ts id) F.P key had old has new) = true) (h6 : is64 old ∧ is64 new) (hk : 0 ≤ key ∧ key < 1048576) (hl : (redoE (cur F.S (placeOf key F.P)).2 (recSet (tget F.ts id) F.P key had old has new)).length ≤ 20) (hfr : 2 ≤ F.free) : PgK (setF F id key had old has new) := by
  have hs := set_cur hg hf hr h6 hk hl hfr
  obtain ⟨p1, p2⟩ := placeOf_in key hg.pg.pages
  intro p a b e he
  rw [hs p] at he
  by_cases e2 : p = placeOf key F.P
  · rw [if_pos e2] at he
    rcases redo_mem (PageV.rise (hg.pg.curV p1 p2)) he with h | h
    · rw [h]; exact e2.symm
    · rw [← e2] at h
      exact hK p a b e h
  · rw [if_neg e2] at he
    exact hK p a b e he
theorem old64 {N m : Nat} {ch : Int → List Int} {kp : Int → Int} {F : FS} (h : FOk N m ch kp F) (key : Int) : is64 ((vals F key).getD 0) := by
  obtain ⟨p1, p2⟩ := placeOf_in key h.g.pg.pages
  have hpv := h.g.pg.curV p1 p2
  have hrise := PageV.rise hpv
  unfold vals
  cases hx : val (cur F.S (placeOf key F.P)).2 key with
  | none => unfold is64; simp
  | some x =>
    have := (val_some hrise key x).1 hx
    exact hpv.2 _ this
theorem pgk_put {N m : Nat} {ch : Int → List Int} {kp : Int → Int} {F F' : FS} {own : Int → Int} {n key v hint : Int} {q : Int × Bool × Option Nat} (h : FOk N m ch kp F) (hK : PgK F) (hk : KOk own F.ks) (he : own key = n) (hid : thas F.ts (F.of n) = true) (hkey : 0 ≤ key ∧ key < 1048576) (hv : is64 v) (hfr : 2 ≤ F.free) (hnf : (vals F key).isSome = true ∨ fullB (takesF F n key 2 hint) key = false) (hR : putR F n key v hint = (F', q)) : PgK F' := by
  obtain ⟨t1, t2, t3, t4, t5, t6, t7, t8, t9⟩ := takes_ok h hk he hkey hint
  obtain ⟨p1, p2⟩ := placeOf_in key h.g.pg.pages
  have hcur := t5 _ p1 p2
  obtain ⟨v1, v2⟩ := page_vals h key
  obtain ⟨x, x1, x2, x3, x4⟩ := t8
  have hP : (takesF F n key 2 hint).P = F.P := rfl
  have hp := put_ok (F := takesF F n key 2 hint) (id := F.of n) (key := key) (v := v) t2 hid t6 hkey hv ⟨x, x1, x2, x3, by rw [x4]; rfl⟩ (by show 2 ≤ F.free; omega) (by
    rw [hP, hcur, v1]
    exact hnf)
  rw [hP, hcur, v1, v2] at hp
  obtain ⟨_, h2, h3, h4, h5⟩ := hp
  unfold putR at hR
  rw [v1, v2, if_neg (by
    rintro ⟨c1, c2⟩
    rcases hnf with h | h
    · rw [h] at c1; cases c1
    · rw [h] at c2; cases c2), if_neg (by omega)] at hR
  simp only [Prod.mk.injEq] at hR
  obtain ⟨rfl, _⟩ := hR
  refine pgk_set t2.g (pgk_takes h hK n key 2 hint) t6 (by rw [hP]; exact h2) ⟨old64 h key, hv⟩ hkey (by rw [hP, hcur]; exact h3) (by show 2 ≤ F.free; omega)
def tab (hs : Int → Bool) (vl : Int → Int) (j : Int) : Option Int := if hs j then some (vl j) else none
structure VSt (N i : Nat) (ch : Int → List Int) (hs : Int → Bool) (vl : Int → Int) (F : FS) : Prop where
  ok : FOk N i ch (fun _ => 2) F
  kok : KOk (fun _ => 0) F.ks
  kl : F.ks.length ≤ i
  kr : ∀ x ∈ F.ks, x.key < 30
  same : F.P = 8 ∧ F.sess = 1 ∧ F.most = 1 ∧ F.of 0 = 1 ∧ F.S.frames = 2
  free : 237 - 2 * (i : Int) ≤ F.free
  has_ : thas F.ts 1 = true
  val_ : ∀ j, vals F j = tab hs vl j
  rng : ∀ j, hs j = true → 0 ≤ j ∧ j < 30
  keys : PgK F
  len : (ch 1).length ≤ i
  all : ∀ j, rewV F.S.l (ch 1) (vals F) j = none
theorem VSt.recs {N i : Nat} {ch : Int → List Int} {hs : Int → Bool} {vl : Int → Int} {F : FS} (h : VSt N i ch hs vl F) : ∀ k ∈ ch 1, ∃ r, recOf F.S.l k = some r := fun k hk => by
  obtain ⟨hx, hxid⟩ := tget_mem h.has_
  obtain ⟨_, r, hr, _⟩ := (h.ok.c.last _ hx).1.at_ k (by rw [hxid]; exact hk)
  exact ⟨r, hr⟩
theorem VSt.tx {N i : Nat} {ch : Int → List Int} {hs : Int → Bool} {vl : Int → Int} {F : FS} (h : VSt N i ch hs vl F) : (tget F.ts 1).id = 1 ∧ (tget F.ts 1).next = (ch 1).headD 0 := by
  obtain ⟨hx, hid⟩ := tget_mem h.has_
  refine ⟨hid, ?_⟩
  rw [h.ok.c.next _ hx, hid]
structure RSt (N m : Nat) (f : Int → Option Int) (F : FS) : Prop where
  ok : ∃ ch kp, FOk N m ch kp F
  own : ∀ x ∈ F.ks, x.s = 0
  kl : F.ks.length ≤ m
  sess : F.sess = 1
  has_ : thas F.ts (F.of 0) = true
  val_ : ∀ j, vals F j = f j
theorem r_get {N m : Nat} {f : Int → Option Int} {F : FS} (h : RSt N m f F) (key hint : Int) :
    RSt N (m + 1) f (takesF F 0 key 1 hint) ∧ whoL F.ks 0 key 1 = [] ∧ has (cur F.S (placeOf key F.P)).2 key = (f key).isSome ∧ fromOf (cur F.S (placeOf key F.P)).2 key = (f key).getD 0 := by
  obtain ⟨ch, kp, hok⟩ := h.ok
  obtain ⟨r1, r2, r3, r4, r5, r6, r7⟩ := read_ok hok 0 key hint
  refine ⟨⟨⟨ch, kp, r1⟩, s_takeL h.own, ?_, h.sess, h.has_, fun j => (r2 j).trans (h.val_ j)⟩, who_one h.own key 1, by rw [r6, h.val_], by rw [r7, h.val_]⟩
  have h4 : (takesF F 0 key 1 hint).ks.length ≤ F.ks.length + 1 := len_takeL _ _ _ _
  have := h.kl
  omega
end Go.Proofs.YtaplpeoikebedaaGreatDoor.ValD
namespace Go.Proofs.YtaplpeoikebedaaGreatDoor.LockG
open Go.RowKit YtaplpeoikebedaaGreatDoorW.PrintWords YtaplpeoikebedaaGreatDoorW.PrintLast YtaplpeoikebedaaGreatDoorW.PrintMore
open See Mem Clone Go.Proofs.YtaplpeoikebedaaGreatDoor.Cell Page PageR Disk DiskN Pool1 Pool2 Rw Del Num SortI StoreD TransT LockT LockU LockF
attribute [local go_sem] max2_imax min2_imin max_two min_two
end Go.Proofs.YtaplpeoikebedaaGreatDoor.LockG
namespace Go.Proofs.YtaplpeoikebedaaGreatDoor.FwdQ
open Go.RowKit Go.Maps YtaplpeoikebedaaGreatDoorW.PrintWords YtaplpeoikebedaaGreatDoorW.PrintLast YtaplpeoikebedaaGreatDoorW.PrintMore
open See Mem Page Disk DiskN DiskW RecD Dirty Wal SysD SysM StoreD StoreF StoreH TransT LockT LockU LockF LockG SpaceT WaitT FwdM FwdP FwdC FwdN EndT
attribute [local go_sem] max2_imax min2_imin max_two min_two
end Go.Proofs.YtaplpeoikebedaaGreatDoor.FwdQ
namespace Go.Proofs.YtaplpeoikebedaaGreatDoor.BackQ
open Go.RowKit Go.Maps YtaplpeoikebedaaGreatDoorW.PrintWords YtaplpeoikebedaaGreatDoorW.PrintLast YtaplpeoikebedaaGreatDoorW.PrintMore
open See Mem Clone Go.Proofs.YtaplpeoikebedaaGreatDoor.Cell Page PageB PageR Disk Dirty Pool2 RecD Rec Wal WalF PoolG PoolS SysD SysM StoreD StoreF StoreH TransT LockT LockU SpaceT WaitT FwdM FwdP FwdC FwdE FwdT FwdB EndT FwdL BackD BackL BackA BackM BackW BackV BackU BackB FwdQ StoreG StoreI StoreJ StoreK PageM
attribute [local go_sem] max2_imax min2_imin max_two min_two
end Go.Proofs.YtaplpeoikebedaaGreatDoor.BackQ
namespace Go.Proofs.YtaplpeoikebedaaGreatDoor.FullD
open Go.RowKit See Mem Page PageB PageR PageL Disk DiskW RecD Dirty Wal WalF PoolG PoolS SysD SysM Fresh FlushG Pager StoreD PageM StoreF StoreG StoreH StoreI StoreJ StoreK StoreV StoreW LockT LockU BackD BackL BackA TwiceD
def rng (a b : Nat) : List Int := (List.range (b - a)).map fun j => ((a + j : Nat) : Int)
theorem rng_len (a b : Nat) : (rng a b).length = b - a := by unfold rng; simp
theorem rng_mem (a b : Nat) (j : Int) : j ∈ rng a b ↔ (a : Int) ≤ j ∧ j < b := by
  unfold rng
  rw [List.mem_map]
  constructor
  · rintro ⟨x, hx, rfl⟩
    rw [List.mem_range] at hx
    omega
  · rintro ⟨h1, h2⟩
    exact ⟨j.toNat - a, List.mem_range.2 (by omega), by omega⟩
def own_ (a b : Nat) (j : Int) : Option Int := if (a : Int) ≤ j ∧ j < b then some j else none
structure ASt (N m : Nat) (k : Nat) (F : FS) : Prop where
  ok : ∃ ch, FOk N m ch (fun _ => 2) F
  same : F.P = 1 ∧ F.sess = 3 ∧ F.most = 1 ∧ F.of 0 = 1 ∧ F.of 1 = 0 ∧ F.of 2 = 0 ∧ F.S.frames = 1
  free : F.free = 357 - 2 * k
  has_ : thas F.ts 1 = true
  kok : KOk (fun _ => 0) F.ks
  kl : F.ks.length ≤ k
  kr : ∀ x ∈ F.ks, x.key < k
  val_ : ∀ j, vals F j = own_ 0 k j
theorem take_keys {ks : List Lk} {s key md : Int} {x : Lk} (hx : x ∈ takeL ks s key md) : x.key = key ∨ ∃ y ∈ ks, y.key = x.key := by
  unfold takeL at hx
  split at hx
  · rcases List.mem_append.1 hx with hx | hx
    · exact .inr ⟨x, hx, rfl⟩
    · rw [List.mem_singleton] at hx; rw [hx]; exact .inl rfl
  · obtain ⟨j, hj⟩ := List.mem_iff_getElem?.1 hx
    rw [List.getElem?_modify] at hj
    obtain ⟨y, hy, e⟩ := Option.map_eq_some_iff.1 hj
    refine .inr ⟨y, List.mem_of_getElem? hy, ?_⟩
    rw [← e]
    split <;> rfl
def ownB (key : Int) : Int := if 200 ≤ key then 2 else 1
def kpB : Int → Int := updk (fun _ => 2) 1 1
structure BSt2 (N m k : Nat) (F : FS) : Prop where
  ok : ∃ ch, FOk N m ch kpB F ∧ ch 3 = [] ∧ (ch 2).length = k ∧ ∀ j, rewV F.S.l (ch 2) (vals F) j = own_ 0 20 j
  same : F.P = 1 ∧ F.sess = 3 ∧ F.most = 3 ∧ F.of 1 = 2 ∧ F.of 2 = 3 ∧ F.S.frames = 1
  free : 311 - 2 * (k : Int) ≤ F.free
  kok : KOk ownB F.ks
  kl : F.ks.length ≤ 2 * k
  held : ∀ j : Int, 0 ≤ j → j < k → ∃ x ∈ F.ks, x.mode = 2 ∧ x.key = j
  val_ : ∀ j, vals F j = own_ k 20 j
theorem BSt2.has_ {N m k : Nat} {F : FS} (h : BSt2 N m k F) : thas F.ts (F.of 1) = true ∧ thas F.ts (F.of 2) = true := by
  obtain ⟨ch, hok, _⟩ := h.ok
  obtain ⟨s1, s2, s3, s4, s5, s6⟩ := h.same
  exact ⟨(hok.t.ofs 1 (by rw [s4]; decide)).2.2, (hok.t.ofs 2 (by rw [s5]; decide)).2.2⟩
end Go.Proofs.YtaplpeoikebedaaGreatDoor.FullD
namespace Go.Proofs.YtaplpeoikebedaaGreatDoor.CkptD
open Go.RowKit See Mem Page PageB PageR PageL Disk DiskW RecD Dirty Dirty2 Wal WalF PoolG PoolS PoolA SortI SysD SysM Fresh FlushG TabL Pager StoreD PageM StoreF StoreG StoreH StoreI StoreJ StoreV StoreW LockT LockU BackD BackL BackA ValD
theorem to_ok {N m m' : Nat} {ch : Int → List Int} {kp : Int → Int} {F : FS} {S' : PSys} (h : FOk N m ch kp F) (e2 : PgOk N F.P S') (e3 : PgTo F.P F.S S') (hl : LooseLe S'.d m') : FOk N m' ch kp { F with S := S' } := by
  refine h.to e2 e3 ?_ hl ?_
  · have := e2.good.fuse
    unfold FuseOk
    rw [this]
    omega
  · obtain ⟨dn, q1, q2⟩ := e3.log
    have hd := e2.done
    rw [q1] at hd ⊢
    have ho := h.g.lok
    exact ⟨ho.first, ho.blocks, ho.base, ho.epoch, ho.len, ho.last, hd, ho.recs⟩
theorem evict_ok {N m : Nat} {ch : Int → List Int} {kp : Int → Int} {F : FS} (h : FOk N m ch kp F) (hint : Int) :
    ∃ S', evictS F.S hint = (S', none) ∧ FOk N (m + 1) ch kp { F with S := S' } ∧ PgTo F.P F.S S' := by
  obtain ⟨S', e1, e2, e3, _⟩ := pg_evict hint h.g.pg
  have hl := evictS_tight hint h.g.pg h.g.loose
  rw [e1] at hl
  exact ⟨S', e1, to_ok h e2 e3 hl, e3⟩
theorem pflush_ok {N m : Nat} {ch : Int → List Int} {kp : Int → Int} {F : FS} (h : FOk N m ch kp F) (n : Int) :
    ∃ S', flushS F.S n = (S', none) ∧ FOk N (m + 1) ch kp { F with S := S' } ∧ PgTo F.P F.S S' := by
  obtain ⟨S', e1, e2, e3, _⟩ := pg_flush n h.g.pg
  have hl := flushS_tight n h.g.pg h.g.loose
  rw [e1] at hl
  exact ⟨S', e1, to_ok h e2 e3 hl, e3⟩
theorem flushL_pg {N : Nat} {P : Int} : ∀ (ns : List Int) {S : PSys} {m : Nat}, PgOk N P S → LooseLe S.d m → ∃ S', flushL S ns = (S', none) ∧ PgOk N P S' ∧ PgTo P S S' ∧ LooseLe S'.d (m + ns.length)
  | [], S, m, h, hl => ⟨S, rfl, h, PgTo.refl _ _, hl⟩
  | n :: ns, S, m, h, hl => by
    obtain ⟨S1, e1, e2, e3, _⟩ := pg_flush n h
    have h1 := flushS_tight n h hl
    rw [e1] at h1
    obtain ⟨S2, q1, q2, q3, q4⟩ := flushL_pg ns e2 h1
    exact ⟨S2, by rw [flushL_cons_ok e1]; exact q1, q2, e3.trans q3, q4.mono (by simp; omega)⟩
theorem sync_pg {N : Nat} {P : Int} {S : PSys} (h : PgOk N P S) : syncE S.d = none ∧ PgOk N P { S with d := syncD S.d } ∧ PgTo P S { S with d := syncD S.d } ∧ ∀ s ∈ (syncD S.d).l, s.loose = [] := by
  obtain ⟨s1, s2, s3⟩ := h.good.sync
  have hd : (syncD S.d).l = S.d.l.map fastS := by
    have h1 := h.good.on
    have h2 := h.good.fuse
    unfold syncD
    rw [if_neg (by rw [h1]; decide), if_pos (by unfold spendB; rw [h2]; decide)]
  refine ⟨s1, ⟨s2, h.pages, h.frames, h.first, h.size, h.done, h.few, h.once, h.here, h.rise, h.tab, fun k k1 k2 => ?_, fun f hf ht => ?_⟩, ⟨fun k k1 k2 => ?_, rfl, ⟨S.l.done, rfl, Nat.le_refl _⟩, fun _ h => h⟩, fun s hs => ?_⟩
  · obtain ⟨g, g1, g2⟩ := h.disk k k1 k2
    exact ⟨g, (s3 k).trans g1, g2⟩
  · exact (s3 f.n).trans (h.same f hf ht)
  · unfold cur
    simp only [s3 k]
  · rw [hd] at hs
    obtain ⟨x, _, rfl⟩ := List.mem_map.1 hs
    rfl
theorem all_ok {N m : Nat} {ch : Int → List Int} {kp : Int → Int} {F : FS} (h : FOk N m ch kp F) :
    ∃ S', flushAllS F.S = (S', none) ∧ FOk N m ch kp { F with S := S' } ∧ PgTo F.P F.S S' ∧ ∀ s ∈ S'.d.l, s.loose = [] := by
  obtain ⟨S1, e1, e2, e3, e4⟩ := flushL_pg (sortI (F.S.here.map (·.n))) h.g.pg h.g.loose
  obtain ⟨s1, s2, s3, s4⟩ := sync_pg e2
  refine ⟨{ S1 with d := syncD S1.d }, by unfold flushAllS; rw [e1]; simp only [s1], to_ok h s2 (e3.trans s3) (fun s hs => ?_), e3.trans s3, s4⟩
  rw [s4 s hs]
  exact Nat.zero_le _
structure CSt (N m : Nat) (f : Int → Option Int) (P : Int) (F : FS) : Prop where
  r : RSt N m f F
  P_ : F.P = P
  few : F.S.frames ≤ 8
  len : F.S.l.l.length ≤ 4000
theorem c_to {N m : Nat} {f : Int → Option Int} {P : Int} {F : FS} (h : CSt N m f P F) {S' : PSys} {m' : Nat} (hm : m ≤ m') (hok : ∀ ch kp, FOk N m ch kp F → FOk N m' ch kp { F with S := S' }) (ht : PgTo F.P F.S S') : CSt N m' f P { F with S := S' } := by
  obtain ⟨ch, kp, ho⟩ := h.r.ok
  refine ⟨⟨⟨ch, kp, hok ch kp ho⟩, h.r.own, Nat.le_trans h.r.kl hm, h.r.sess, h.r.has_, fun j => ?_⟩, h.P_, by show S'.frames ≤ 8; rw [ht.frames]; exact h.few, by show S'.l.l.length ≤ _; rw [ht.ll.1]; exact h.len⟩
  exact (vals_to ho.g.pg.pages ht j).trans (h.r.val_ j)
theorem c_evict {N m : Nat} {f : Int → Option Int} {P : Int} {F : FS} (h : CSt N m f P F) (hint : Int) : ∃ S', evictS F.S hint = (S', none) ∧ CSt N (m + 1) f P { F with S := S' } := by
  obtain ⟨ch, kp, ho⟩ := h.r.ok
  obtain ⟨S', e1, e2, e3⟩ := evict_ok ho hint
  refine ⟨S', e1, c_to h (by omega) (fun ch kp ho => ?_) e3⟩
  obtain ⟨S2, q1, q2, _⟩ := evict_ok ho hint
  rw [e1] at q1
  cases q1
  exact q2
theorem c_flush {N m : Nat} {f : Int → Option Int} {P : Int} {F : FS} (h : CSt N m f P F) (n : Int) : ∃ S', flushS F.S n = (S', none) ∧ CSt N (m + 1) f P { F with S := S' } := by
  obtain ⟨ch, kp, ho⟩ := h.r.ok
  obtain ⟨S', e1, e2, e3⟩ := pflush_ok ho n
  refine ⟨S', e1, c_to h (by omega) (fun ch kp ho => ?_) e3⟩
  obtain ⟨S2, q1, q2, _⟩ := pflush_ok ho n
  rw [e1] at q1
  cases q1
  exact q2
theorem c_all {N m : Nat} {f : Int → Option Int} {P : Int} {F : FS} (h : CSt N m f P F) : ∃ S', flushAllS F.S = (S', none) ∧ CSt N (m + 1) f P { F with S := S' } := by
  obtain ⟨ch, kp, ho⟩ := h.r.ok
  obtain ⟨S', e1, e2, e3, _⟩ := all_ok ho
  refine ⟨S', e1, c_to h (by omega) (fun ch kp ho => ?_) e3⟩
  obtain ⟨S2, q1, q2, _⟩ := all_ok ho
  rw [e1] at q1
  cases q1
  exact FOk.loosen q2 (by omega)
theorem c_fetch {N m : Nat} {f : Int → Option Int} {P : Int} {F : FS} (h : CSt N m f P F) (n hint : Int) (n1 : 1 ≤ n) (n2 : n ≤ P) : ∃ S' g, getS F.S n hint = (S', g, .fine) ∧ CSt N (m + 1) f P { F with S := S' } := by
  obtain ⟨ch, kp, ho⟩ := h.r.ok
  obtain ⟨S', e1, e2, e3, _⟩ := get_ok ho hint n1 (by rw [h.P_]; exact n2)
  refine ⟨S', _, e1, c_to h (by omega) (fun ch kp ho => ?_) e3⟩
  obtain ⟨S2, q1, q2, _⟩ := get_ok ho hint n1 (by rw [h.P_]; exact n2)
  rw [e1] at q1
  cases q1
  exact q2
structure KSt (N m : Nat) (k : Nat) (f : Int → Int) (P bl : Int) (F : FS) : Prop where
  ok : ∃ ch, FOk N m ch (fun _ => 2) F
  same : F.P = P ∧ F.sess = 1 ∧ F.most = 1 ∧ F.of 0 = 1 ∧ F.S.frames ≤ 8
  free : F.free = bl - 2 * k
  len : F.S.l.l.length = k + 1
  has_ : thas F.ts 1 = true
  kok : KOk (fun _ => 0) F.ks
  kl : F.ks.length ≤ k
  kr : ∀ x ∈ F.ks, x.key < k
  keys : PgK F
  val_ : ∀ j, vals F j = if 0 ≤ j ∧ j < k then some (f j) else none
theorem k_put {N m k : Nat} {f : Int → Int} {P bl : Int} {F : FS} (h : KSt N m k f P bl F) (hint : Int) (hk : k < 19) (hf : is64 (f k)) (hfr : 2 ≤ bl - 2 * (k : Int)) : ∃ F', putR F 0 k (f k) hint = (F', 0, false, none) ∧ KSt N (m + 1) (k + 1) f P bl F' := by
  obtain ⟨ch, hok⟩ := h.ok
  obtain ⟨s1, s2, s3, s4, s5⟩ := h.same
  have hv0 : vals F k = none := by rw [h.val_, if_neg (by omega)]
  obtain ⟨p1, p2⟩ := placeOf_in (k : Int) hok.g.pg.pages
  obtain ⟨t1, t2, t3, t4, t5, t6, t7, t8, t9⟩ := takes_ok (key := (k : Int)) (n := 0) hok h.kok rfl ⟨by omega, by omega⟩ hint
  have hcur := t5 _ p1 p2
  have hP : (takesF F 0 k 2 hint).P = F.P := rfl
  have hrise : Rising (cur F.S (placeOf (k : Int) F.P)).2 := PageV.rise (hok.g.pg.curV p1 p2)
  have hmore : moreL (takesF F 0 k 2 hint) k = [] := by
    rw [List.eq_nil_iff_forall_not_mem]
    intro x hx
    unfold moreL at hx
    rw [List.mem_filter, hP, hcur] at hx
    obtain ⟨q1, q2⟩ := hx
    simp only [Bool.and_eq_true, Bool.not_eq_true', bne_iff_ne, beq_iff_eq] at q2
    obtain ⟨q2, q3, q4⟩ := q2
    rw [t3.held] at q1
    obtain ⟨y, hy, rfl⟩ := List.mem_map.1 q1
    rcases FullD.take_keys hy with e | ⟨z, hz, e⟩
    · exact q3 e
    · have h1 := h.kr z hz
      have h2 := (h.kok.rng z hz).1
      have h3 : vals F y.key = some (f y.key) := by rw [h.val_, if_pos (by omega)]
      rw [has_val hrise] at q2
      unfold vals at h3
      rw [q4] at h3
      rw [h3] at q2
      cases q2
  have hlen : (cur F.S (placeOf (k : Int) F.P)).2.length ≤ k := by
    have hnd : ((cur F.S (placeOf (k : Int) F.P)).2.map (·.1)).Nodup := by
      unfold List.Nodup
      rw [List.pairwise_map]
      exact hrise.imp fun hab e => by omega
    have := nodup_sub hnd (b := FullD.rng 0 k) fun x hx => by
      obtain ⟨e, he, rfl⟩ := List.mem_map.1 hx
      have h3 := h.keys _ p1 p2 e he
      have h4 : vals F e.1 = some e.2 := by
        unfold vals
        rw [h3]
        exact (val_some hrise e.1 e.2).2 he
      rw [h.val_] at h4
      rw [FullD.rng_mem]
      by_cases q : 0 ≤ e.1 ∧ e.1 < k
      · omega
      · rw [if_neg q] at h4; cases h4
    rw [List.length_map, FullD.rng_len] at this
    omega
  have hnf : (vals F k).isSome = true ∨ fullB (takesF F 0 k 2 hint) k = false := .inr (by
    unfold fullB
    rw [hmore, hP, hcur]
    simp
    omega)
  have hid : thas F.ts (F.of 0) = true := by rw [s4]; exact h.has_
  have hf2 := h.free
  obtain ⟨F', e1, e2, e3, e4⟩ := chg_put (n := 0) (key := (k : Int)) (v := f k) (hint := hint) hok h.kok rfl hid ⟨by omega, by omega⟩ hf (by omega) hnf
  have hK := pgk_put hok h.keys h.kok rfl hid ⟨by omega, by omega⟩ hf (by omega) hnf e1
  rw [hv0] at e1
  rw [s4] at e2
  obtain ⟨q1, q2, q3, q4, q5, q6⟩ := e2.same
  have hlast := e2.last
  have hfit := e2.ok.g.room
  refine ⟨F', e1, ⟨⟨_, e2.ok⟩, ⟨q1.trans s1, q2.trans s2, q3.trans s3, by rw [q4, s4], by rw [q6]; exact s5⟩, by rw [q5, hf2]; push_cast; omega, ?_, e2.has_, e3, by rw [e4]; have := len_takeL F.ks 0 k 2; have := h.kl; omega, fun x hx => ?_, hK, fun j => ?_⟩⟩
  · have hb : F'.S.l.base = F.S.l.base := by
      have hq := takes_same hok 0 k 2 hint
      unfold putR at e1
      obtain ⟨v1, v2⟩ := page_vals hok (k : Int)
      rw [v1, v2, if_neg (by
        rintro ⟨c1, c2⟩
        rcases hnf with h | h
        · rw [h] at c1; cases c1
        · rw [h] at c2; cases c2), if_neg (by omega)] at e1
      simp only [Prod.mk.injEq] at e1
      obtain ⟨rfl, _⟩ := e1
      obtain ⟨S', g1, g2, g3, g4⟩ := get_ok hok hint p1 p2
      have hS : (takesF F 0 k 2 hint).S = S' := by unfold takesF; rw [g1]
      obtain ⟨l1, l2, l3, l4, l5⟩ := g3.ll
      show (chgS _ _).l.base = _
      rw [(chg_l _ _).1]
      show (takesF F 0 k 2 hint).S.l.base = _
      rw [hS, l2]
    have h1 := h.len
    unfold Lg.last at hlast
    omega
  · rw [e4] at hx
    rcases FullD.take_keys hx with e | ⟨z, hz, e⟩
    · rw [e]; push_cast; omega
    · have := h.kr z hz; rw [← e]; push_cast; omega
  · rw [e2.vals_, h.val_]
    by_cases e : j = k
    · rw [if_pos e, if_pos (by push_cast; omega), e]
    · rw [if_neg e]
      by_cases e2 : (0 : Int) ≤ j ∧ j < k
      · rw [if_pos e2, if_pos (by push_cast; omega)]
      · rw [if_neg e2, if_neg (by push_cast; omega)]
theorem k_start (P bl : Int) (fr : Int) (f : Int → Int) (h1 : 1 ≤ P ∧ P ≤ 32) (h2 : 1 ≤ bl ∧ bl ≤ 100) (h3 : 1 ≤ fr ∧ fr ≤ 8) : KSt (1 + P + bl : Int).toNat 0 0 f P (bl * 6 - 3) (beginF (newF P bl fr 1) 0) := by
  have hn := new_ok (P := P) (blocks := bl) (frames := fr) (sess := 1) 0 h1 h2 h3.1
  have hfr : (newF P bl fr 1).free = bl * 6 := rfl
  have hb := begin_ok (n := 0) hn rfl (by decide) (by show (0 : Int) < 1; decide) rfl (by rw [hfr]; omega) (by show (0 : Int) < 60000; decide)
  have hcur : ∀ p, 1 ≤ p → p ≤ P → cur (beginF (newF P bl fr 1) 0).S p = (0, []) := fun p p1 p2 => by
    show cur (addRec (newF P bl fr 1).S _) p = _
    rw [addRec_cur]
    exact cur_new (by omega) (by omega)
  refine ⟨⟨_, hb⟩, ⟨rfl, rfl, rfl, rfl, h3.2⟩, by show (newF P bl fr 1).free - 3 = _; rw [hfr]; push_cast; omega, rfl, ?_, KOk.nil _, Nat.le_refl _, fun x hx => (List.not_mem_nil hx).elim, fun p p1 p2 e he => ?_, fun j => ?_⟩
  · exact (hb.t.ofs 0 (by show (1 : Int) ≠ 0; decide)).2.2
  · rw [hcur p p1 p2] at he
    exact (List.not_mem_nil he).elim
  · obtain ⟨q1, q2⟩ := placeOf_in j h1.1
    have hv : vals (beginF (newF P bl fr 1) 0) j = none := by
      show val (cur (beginF (newF P bl fr 1) 0).S (placeOf j P)).2 j = _
      rw [hcur _ q1 q2]
      rfl
    rw [hv, if_neg (by push_cast; omega)]
theorem k_read {N m k : Nat} {f : Int → Int} {P bl : Int} {F : FS} (h : KSt N m k f P bl F) (hk : k ≤ 100) : CSt N (m + k) (fun j => if 0 ≤ j ∧ j < k then some (f j) else none) P F := by
  obtain ⟨ch, hok⟩ := h.ok
  obtain ⟨s1, s2, s3, s4, s5⟩ := h.same
  exact ⟨⟨⟨ch, _, FOk.loosen hok (by omega)⟩, fun x hx => (h.kok.own x hx).symm, by have := h.kl; omega, s2, by rw [s4]; exact h.has_, h.val_⟩, s1, s5, by rw [h.len]; omega⟩
end Go.Proofs.YtaplpeoikebedaaGreatDoor.CkptD
namespace Go.Proofs.YtaplpeoikebedaaGreatDoor.MasC
open Go.RowKit YtaplpeoikebedaaGreatDoorW.PrintWords YtaplpeoikebedaaGreatDoorW.PrintLast YtaplpeoikebedaaGreatDoorW.PrintMore
open See Mem Clone Go.Proofs.YtaplpeoikebedaaGreatDoor.Cell Page PageB PageR Disk RecD Rec RecC RecB Fill
attribute [local go_sem] max2_imax min2_imin max_two min_two
structure Mst where
  epoch : Int
  base : Int
  reset : Int
  ckpt : Int
  pages : Int
  blocks : Int
  frames : Int
abbrev mstV (m : Mst) : Value := .agg #[.int .i64 m.epoch, .int .i64 m.base, .int .i64 m.reset, .int .i64 m.ckpt, .int .i64 m.pages, .int .i64 m.blocks, .int .i64 m.frames]
structure MOk (m : Mst) : Prop where
  epoch : 1 ≤ m.epoch ∧ m.epoch ≤ 1073741824
  base : 0 ≤ m.base ∧ m.base ≤ 1073741824
  reset : 1 ≤ m.reset ∧ m.reset ≤ m.epoch
  ckpt : m.ckpt = 0 ∨ (m.base + 1 ≤ m.ckpt ∧ m.ckpt ≤ 1073741824)
  pages : 1 ≤ m.pages ∧ m.pages ≤ 32
  blocks : 1 ≤ m.blocks ∧ m.blocks ≤ 64
  frames : 1 ≤ m.frames ∧ m.frames ≤ 8
theorem min_in (n lo hi : Int) (h1 : lo ≤ n) (h2 : n ≤ hi) (w : World) :
    Calls Tryz.prog 203 #[.int .i64 n, .int .i64 lo, .int .i64 hi] w fun e w' => e = .returned (.bool true) ∧ w = w' := by
  have q1 : decide (n ≥ lo) = true := decide_eq_true h1
  have q2 : decide (n ≤ hi) = true := decide_eq_true h2
  clear h1 h2
  go_enter Tryz.func203, Tryz.ntmps203
  go_wp2
  go_ret
  exact ⟨by simp, rfl⟩
theorem mcheck_calls (m : Mst) (hm : MOk m) (w : World) :
    Calls Tryz.prog 156 #[mstV m] w fun e w' => e = .returned .nilIface ∧ Below w.heap.size w w' := by
  obtain ⟨⟨a1, a2⟩, ⟨b1, b2⟩, ⟨c1, c2⟩, hc, ⟨d1, d2⟩, ⟨e1, e2⟩, ⟨f1, f2⟩⟩ := hm
  obtain ⟨ep, ba, re, ck, pg, bl, fr⟩ := m
  simp only at a1 a2 b1 b2 c1 c2 hc d1 d2 e1 e2 f1 f2
  have hw : IntKind.i64.wrap (ba + 1) = ba + 1 := by rw [IntKind.wrap_i64]; omega
  rcases hc with rfl | ⟨g1, g2⟩
  · go_enter Tryz.func156, Tryz.ntmps156
    go_wp2_with (refine (min_in _ _ _ (by omega) (by omega) _).mono ?_; rintro e w' ⟨rfl, rfl⟩)
    go_ret
    exact ⟨rfl, below_alloc (Below.refl _ _) _⟩
  · have hne : ¬ ck = 0 := by omega
    go_enter Tryz.func156, Tryz.ntmps156
    go_wp2_with (refine (min_in _ _ _ (by omega) (by omega) _).mono ?_; rintro e w' ⟨rfl, rfl⟩)
    go_ret
    exact ⟨rfl, below_alloc (Below.refl _ _) _⟩
def mstL (m : Mst) : List Int := [m.epoch, m.base, m.reset, m.ckpt, m.pages, m.blocks, m.frames]
def mstN (m : Mst) : Nat → List Int
  | 0 => fillL [80, 72, 88, 77] 256
  | i + 1 => putL (mstN m i) (4 + 4 * i) 4 (IntKind.u64.wrap ((mstL m).getD i 0))
def mstBytes (m : Mst) : List Int := mstN m 7
theorem mstN_len (m : Mst) : ∀ i, i ≤ 7 → (mstN m i).length = 256
  | 0, _ => by
    show (fillL [80, 72, 88, 77] 256).length = 256
    unfold fillL
    rw [List.length_append, List.length_replicate]
    rfl
  | i + 1, h => by
    have := mstN_len m i (by omega)
    unfold mstN
    rw [putL_length _ _ _ _ (by omega)]
    exact this
theorem mstN_isB (m : Mst) : ∀ i, IsB (mstN m i)
  | 0 => by
    unfold mstN fillL
    refine IsB.append (fun x hx => ?_) (fun x hx => ?_)
    · simp only [List.mem_cons, List.not_mem_nil, or_false] at hx
      rcases hx with rfl | rfl | rfl | rfl <;> decide
    · rw [List.mem_replicate] at hx
      rw [hx.2]; decide
  | i + 1 => by
    unfold mstN
    exact putL_isB (mstN_isB m i) _ _ _
theorem mst_sec (m : Mst) : SecB (mstBytes m) := ⟨mstN_len m 7 (by omega), mstN_isB m 7⟩
end Go.Proofs.YtaplpeoikebedaaGreatDoor.MasC
