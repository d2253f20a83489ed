/- Joined texts: StoreI, FwdN, FwdO, FwdE, StoreJ, RoomD. No condition but what each says. -/
import Derived.Test.YtaplpeoikebedaaGreatDoorV21
import Derived.Test.YtaplpeoikebedaaGreatDoorV24
import Derived.Test.YtaplpeoikebedaaGreatDoorV25
import Derived.Test.YtaplpeoikebedaaGreatDoorV18
import Derived.Maps.Views
import Derived.Deep.DeepCutAuto
import Derived.Deep.RegionLaw
import Derived.BigQuiet
set_option maxHeartbeats 8000000
set_option maxRecDepth 100000
set_option linter.unusedVariables false
set_option linter.unusedSimpArgs false
namespace Go.Proofs.YtaplpeoikebedaaGreatDoor.StoreI
open Go.RowKit See Mem Clone Go.Proofs.YtaplpeoikebedaaGreatDoor.Cell Page PageB PageR PageL Disk DiskN DiskW RecD Dirty Dirty2 SysD SysM Wal WalF GoodD PoolG PoolS FlushG Fresh DirtD PoolA TabL SortI AheadD Pager StoreD PageM StoreF StoreG StoreH LockT LockU
def newF (P blocks frames sess : Int) : FS := ⟨sys0 (1 + P + blocks).toNat (P + 1) blocks frames, P, sess, [], [], 0, blocks * 6, 0, fun _ => 0⟩
theorem good_z (n : Nat) : GoodD.Good (zdisk n) n := ⟨rfl, rfl, by simp [zdisk]⟩
theorem pageV_zero : PageV 0 [] := by
  refine ⟨by decide, fun e he => by cases he⟩
theorem cur_new {n : Nat} {f b fr k : Int} (h1 : 0 ≤ k) (h2 : k < n) : cur (sys0 n f b fr) k = (0, []) := by
  have : findP (sys0 n f b fr).here k = none := rfl
  unfold cur
  rw [this]
  show (readPage (readV (zdisk n) k)).getD (0, []) = _
  rw [(readE_zero h1 h2).2, read_zero]
  rfl
theorem new_ok {P blocks frames sess : Int} (m : Nat) (h1 : 1 ≤ P ∧ P ≤ 32) (h2 : 1 ≤ blocks ∧ blocks ≤ 100) (h3 : 1 ≤ frames) : FOk (1 + P + blocks).toNat m (fun _ => []) (fun _ => 2) (newF P blocks frames sess) := by
  have hN : (((1 + P + blocks).toNat : Nat) : Int) = 1 + P + blocks := by omega
  refine ⟨⟨⟨good_z _, h1.1, h3, rfl, ?_, Nat.le_refl _, ?_, List.Pairwise.nil, fun f hf => (List.not_mem_nil hf).elim, List.Pairwise.nil, fun d hd => (List.not_mem_nil hd).elim, fun k k1 k2 => ?_, fun f hf => (List.not_mem_nil hf).elim⟩, ?_, lg0_ok (by omega) (by omega), ?_, zdisk_loose _ _, fun p p1 p2 => ?_, fun r hr => (List.not_mem_nil hr).elim, h1.2, ?_⟩, ⟨List.Pairwise.nil, fun x hx => (List.not_mem_nil hx).elim, ?_, fun s hs => absurd rfl hs, fun s t _ hs => absurd rfl hs, fun x hx => (List.not_mem_nil hx).elim⟩, ⟨fun x hx => (List.not_mem_nil hx).elim, fun x hx => (List.not_mem_nil hx).elim, fun x hx => (List.not_mem_nil hx).elim, rfl, fun p p1 p2 l hn hl => ?_⟩⟩
  · show (P + 1) * 6 + ((([] : List RecV).length : Nat) : Int) ≤ _
    simp
    omega
  · show ((([] : List Fp).length : Nat) : Int) ≤ frames
    simp
    omega
  · have k2' : k ≤ P := k2
    refine ⟨(0, []), ?_, pageV_zero⟩
    show readV (zdisk _) k = _
    rw [(readE_zero (by omega) (by omega)).2, ErrD.page_zero]
  · show P + 1 + blocks ≤ _
    omega
  · show FuseOk (zdisk _)
    unfold FuseOk zdisk
    simp
  · have p2' : p ≤ P := p2
    show (cur (sys0 _ _ _ _) p).1 ≤ _
    rw [cur_new (by omega) (by omega)]
    show (0 : Int) ≤ _
    unfold Lg.last newF sys0 lg0
    simp
  · show 0 ≤ blocks * 6 ∧ (0 : Int) ≤ 0 ∧ blocks * 6 + 0 = (lg0 (P + 1) blocks).room
    have : (lg0 (P + 1) blocks).room = max (min (blocks * 6 - 0) (1073741824 - (0 + 0))) 0 := rfl
    rw [this]
    omega
  · show (0 : Int) ≤ 0 ∧ (0 : Int) ≤ 60000
    omega
  · have p2' : p ≤ P := p2
    show (cur (sys0 _ _ _ _) p).2.length + l.length ≤ 20
    rw [cur_new (by omega) (by omega)]
    have : l = [] := by
      rw [List.eq_nil_iff_forall_not_mem]
      intro k hk
      obtain ⟨_, _, x, hx, _⟩ := hl k hk
      exact (List.not_mem_nil hx).elim
    rw [this]
    simp
structure KOk (own : Int → Int) (ks : List Lk) : Prop where
  mode : ∀ h ∈ ks, h.mode = 2
  own : ∀ h ∈ ks, own h.key = h.s
  once : (ks.map (·.key)).Nodup
  rng : ∀ h ∈ ks, 0 ≤ h.key ∧ h.key < 1048576
theorem KOk.nil (own : Int → Int) : KOk own [] := ⟨fun h hh => (List.not_mem_nil hh).elim, fun h hh => (List.not_mem_nil hh).elim, List.nodup_nil, fun h hh => (List.not_mem_nil hh).elim⟩
theorem KOk.who {own : Int → Int} {ks : List Lk} (h : KOk own ks) {s key : Int} (he : own key = s) (m : Int) : whoL ks s key m = [] := by
  unfold whoL
  rw [List.map_eq_nil_iff, List.filter_eq_nil_iff]
  intro x hx e
  unfold inWay at e
  simp only [Bool.and_eq_true, beq_iff_eq, bne_iff_ne] at e
  obtain ⟨⟨⟨_, e1⟩, e2⟩, _⟩ := e
  have := h.own x hx
  rw [e1, he] at this
  exact e2 this.symm
theorem KOk.held {own : Int → Int} {ks : List Lk} (h : KOk own ks) : heldL ks = ks.map (·.key) := by
  unfold heldL
  rw [List.filter_eq_self.2 fun x hx => by simp [h.mode x hx]]
theorem KOk.take {own : Int → Int} {ks : List Lk} (h : KOk own ks) {s key : Int} (he : own key = s) (hkr : 0 ≤ key ∧ key < 1048576) :
    KOk own (takeL ks s key 2) ∧ (takeL ks s key 2).length ≤ ks.length + 1 ∧ (∃ x ∈ takeL ks s key 2, x.mode = 2 ∧ x.key = key ∧ x.s = s) ∧ ∀ x ∈ ks, x ∈ takeL ks s key 2 := by
  unfold takeL
  rcases lkIdx_or s key ks 0 with hi | ⟨i, f, hf, hi⟩
  · rw [hi, if_pos (by decide)]
    have hno : ∀ x ∈ ks, x.key ≠ key := fun x hx e => by
      have hxs : x.s = s ∧ x.key = key := ⟨by rw [← h.own x hx, e, he], e⟩
      have key2 : ∀ (l : List Lk) (n : Int), 0 ≤ n → x ∈ l → lkIdx s key l n ≠ -1 := by
        intro l
        induction l with
        | nil => intro n _ hx; exact (List.not_mem_nil hx).elim
        | cons g gs ih =>
          intro n hn hx
          unfold lkIdx
          split
          · omega
          · rename_i hng
            rcases List.mem_cons.1 hx with rfl | hx
            · exact absurd hxs hng
            · exact ih (n + 1) (by omega) hx
      exact key2 ks 0 (Int.le_refl _) hx hi
    refine ⟨⟨fun x hx => ?_, fun x hx => ?_, ?_, fun x hx => ?_⟩, by simp, ⟨⟨s, key, 2⟩, by simp, rfl, rfl, rfl⟩, fun x hx => List.mem_append_left _ hx⟩
    · rcases List.mem_append.1 hx with hx | hx
      · exact h.mode x hx
      · rw [List.mem_singleton] at hx; rw [hx]
    · rcases List.mem_append.1 hx with hx | hx
      · exact h.own x hx
      · rw [List.mem_singleton] at hx; rw [hx]; exact he
    · rw [List.map_append, List.nodup_append]
      refine ⟨h.once, by simp, fun a ha b hb => ?_⟩
      obtain ⟨x, hx, rfl⟩ := List.mem_map.1 ha
      simp at hb
      subst hb
      exact hno x hx
    · rcases List.mem_append.1 hx with hx | hx
      · exact h.rng x hx
      · rw [List.mem_singleton] at hx; rw [hx]; exact hkr
  · rw [hi, if_neg (by omega)]
    have hm : f ∈ ks := List.mem_of_getElem? hf
    have hq : f.s = s ∧ f.key = key := by
      clear hm
      have key2 : ∀ (l : List Lk) (n : Int) (i : Nat), 0 ≤ n → l[i]? = some f → lkIdx s key l n = n + i → f.s = s ∧ f.key = key := by
        intro l
        induction l with
        | nil => intro n i _ hx; simp at hx
        | cons g gs ih =>
          intro n i hn hx hl
          unfold lkIdx at hl
          split at hl
          · rename_i hg
            have : i = 0 := by omega
            subst this
            simp at hx
            rw [← hx]; exact hg
          · cases i with
            | zero =>
              exfalso
              rcases lkIdx_or s key gs (n + 1) with h2 | ⟨j, _, _, h2⟩
              · rw [h2] at hl; simp at hl; omega
              · rw [h2] at hl; simp at hl; omega
            | succ i => exact ih (n + 1) i (by omega) (by simpa using hx) (by rw [hl]; push_cast; omega)
      exact key2 ks 0 i (Int.le_refl _) hf hi
    have hid : (ks.modify (0 + (i : Int)).toNat fun h => ⟨h.s, h.key, max h.mode 2⟩) = ks := by
      rw [show (0 + (i : Int)).toNat = i from by omega]
      apply List.ext_getElem?
      intro j
      rw [List.getElem?_modify]
      by_cases e : i = j
      · subst e
        rw [hf]
        simp [h.mode f hm]
        cases f
        simp at *
        exact (h.mode _ hm).symm
      · simp [e]
    rw [hid]
    exact ⟨h, by omega, ⟨f, hm, h.mode f hm, hq.2, hq.1⟩, fun x hx => hx⟩
theorem nodup_sub : ∀ {a b : List Int}, a.Nodup → (∀ x ∈ a, x ∈ b) → a.length ≤ b.length
  | [], b, _, _ => Nat.zero_le _
  | x :: xs, b, ha, hs => by
    rw [List.nodup_cons] at ha
    have hx := hs x List.mem_cons_self
    have h2 := nodup_sub (b := b.erase x) ha.2 fun y hy => by
      rw [List.mem_erase_of_ne (fun e => ha.1 (by rw [← e]; exact hy))]
      exact hs y (List.mem_cons_of_mem _ hy)
    have h3 := List.length_erase_of_mem hx
    have h4 : 0 < b.length := List.length_pos_of_mem hx
    simp
    omega
def moreL (F : FS) (key : Int) : List Int := (heldL F.ks).filter fun k => !(has (cur F.S (placeOf key F.P)).2 k) && (k != key && placeOf k F.P == placeOf key F.P)
def fullB (F : FS) (key : Int) : Bool := decide (20 ≤ (cur F.S (placeOf key F.P)).2.length + (moreL F key).length)
theorem FOk.locks {N m : Nat} {ch : Int → List Int} {kp : Int → Int} {F : FS} (h : FOk N m ch kp F) {ks : List Lk} (hk : ∀ x ∈ F.ks, x ∈ ks) : FOk N m ch kp { F with ks := ks } :=
  ⟨⟨h.g.pg, h.g.fit, h.g.lok, h.g.fuse, h.g.loose, h.g.lsn, h.g.six, h.g.p32, h.g.room⟩, ⟨h.t.rise, h.t.ids, h.t.most, h.t.ofs, h.t.inj, h.t.on⟩, ⟨h.c.last, h.c.next, fun x hx k hk2 r hr => by
    obtain ⟨a, b, lk, c1, c2⟩ := h.c.sets x hx k hk2 r hr
    exact ⟨a, b, lk, hk lk c1, c2⟩, h.c.kept, h.c.cap⟩⟩
theorem get_ok {N m : Nat} {ch : Int → List Int} {kp : Int → Int} {F : FS} (h : FOk N m ch kp F) (hint : Int) {p : Int} (p1 : 1 ≤ p) (p2 : p ≤ F.P) :
    ∃ S', getS F.S p hint = (S', cur F.S p, .fine) ∧ FOk N (m + 1) ch kp { F with S := S' } ∧ PgTo F.P F.S S' ∧ findP S'.here p = some ⟨p, (cur F.S p).1, (cur F.S p).2⟩ := by
  obtain ⟨S', e1, e2, e3, e4⟩ := pg_get hint h.g.pg p1 p2
  have hl := getS_tight p hint h.g.pg h.g.loose
  rw [e1] at hl
  refine ⟨S', e1, h.to e2 e3 ?_ hl ?_, e3, e4⟩
  · have := e2.good.fuse
    unfold FuseOk
    rw [this]
    omega
  · obtain ⟨dn, q1, q2⟩ := e3.log
    have hd := e2.done
    rw [q1] at hd ⊢
    have ho := h.g.lok
    exact ⟨ho.first, ho.blocks, ho.base, ho.epoch, ho.len, ho.last, hd, ho.recs⟩
def takesF (F : FS) (n key mode hint : Int) : FS := { F with ks := takeL F.ks n key mode, S := (getS F.S (placeOf key F.P) hint).1 }
theorem takes_ok {N m : Nat} {ch : Int → List Int} {kp : Int → Int} {F : FS} {own : Int → Int} (h : FOk N m ch kp F) (hk : KOk own F.ks) {n key : Int} (he : own key = n) (hkr : 0 ≤ key ∧ key < 1048576) (hint : Int) :
    getS F.S (placeOf key F.P) hint = ((takesF F n key 2 hint).S, cur F.S (placeOf key F.P), .fine) ∧ FOk N (m + 1) ch kp (takesF F n key 2 hint) ∧ KOk own (takesF F n key 2 hint).ks ∧
    (∀ k, vals (takesF F n key 2 hint) k = vals F k) ∧ (∀ p, 1 ≤ p → p ≤ F.P → cur (takesF F n key 2 hint).S p = cur F.S p) ∧ findP (takesF F n key 2 hint).S.here (placeOf key F.P) = some ⟨placeOf key F.P, (cur F.S (placeOf key F.P)).1, (cur F.S (placeOf key F.P)).2⟩ ∧ (takesF F n key 2 hint).S.l.last = F.S.l.last ∧
    (∃ x ∈ (takesF F n key 2 hint).ks, x.mode = 2 ∧ x.key = key ∧ x.s = n) ∧ (takesF F n key 2 hint).ks.length ≤ F.ks.length + 1 := by
  obtain ⟨p1, p2⟩ := placeOf_in key h.g.pg.pages
  obtain ⟨k1, k2, k3, k4⟩ := hk.take he hkr
  obtain ⟨S', e1, e2, e3, e4⟩ := get_ok h hint p1 p2
  have hS : (takesF F n key 2 hint).S = S' := by unfold takesF; rw [e1]
  have hF : takesF F n key 2 hint = { F with ks := takeL F.ks n key 2, S := S' } := by unfold takesF; rw [e1]
  obtain ⟨l1, l2, l3, l4, l5⟩ := e3.ll
  rw [hF]
  refine ⟨e1, FOk.locks e2 k4, k1, fun k => ?_, e3.cur, e4, ?_, k3, k2⟩
  · exact vals_to h.g.pg.pages e3 k
  · exact (room_done (L := F.S.l) (L' := S'.l) ⟨l2, l3, l1⟩).2
theorem put_ok {N m : Nat} {ch : Int → List Int} {kp : Int → Int} {F : FS} {id key v : Int} {fp : Fp} (h : FOk N m ch kp F) (hid : thas F.ts id = true) (hf : findP F.S.here (placeOf key F.P) = some fp) (hk : 0 ≤ key ∧ key < 1048576) (hv : is64 v)
    (hh : ∃ lk ∈ F.ks, lk.mode = 2 ∧ lk.key = key ∧ F.of lk.s = id) (hfr : 2 ≤ F.free) (hfull : has (cur F.S (placeOf key F.P)).2 key = true ∨ fullB F key = false) :
    setS (addRec F.S (recSet (tget F.ts id) F.P key (has (cur F.S (placeOf key F.P)).2 key) (fromOf (cur F.S (placeOf key F.P)).2 key) true v)) (placeOf key F.P) (F.S.l.last + 1) (redoE (cur F.S (placeOf key F.P)).2 (recSet (tget F.ts id) F.P key (has (cur F.S (placeOf key F.P)).2 key) (fromOf (cur F.S (placeOf key F.P)).2 key) true v)) = ((setF F id key (has (cur F.S (placeOf key F.P)).2 key) (fromOf (cur F.S (placeOf key F.P)).2 key) true v).S, none) ∧ recOk (recSet (tget F.ts id) F.P key (has (cur F.S (placeOf key F.P)).2 key) (fromOf (cur F.S (placeOf key F.P)).2 key) true v) = true ∧ (redoE (cur F.S (placeOf key F.P)).2 (recSet (tget F.ts id) F.P key (has (cur F.S (placeOf key F.P)).2 key) (fromOf (cur F.S (placeOf key F.P)).2 key) true v)).length ≤ 20 ∧
    FOk N m (updc ch id ((F.S.l.last + 1) :: ch id)) kp (setF F id key (has (cur F.S (placeOf key F.P)).2 key) (fromOf (cur F.S (placeOf key F.P)).2 key) true v) ∧ ∀ k, vals (setF F id key (has (cur F.S (placeOf key F.P)).2 key) (fromOf (cur F.S (placeOf key F.P)).2 key) true v) k = if k = key then some v else vals F k := by
  obtain ⟨p1, p2⟩ := placeOf_in key h.g.pg.pages
  have hpv := h.g.pg.curV p1 p2
  have hrise := PageV.rise hpv
  have hv2 : val (cur F.S (placeOf key F.P)).2 key = vals F key := rfl
  have hold : is64 (fromOf (cur F.S (placeOf key F.P)).2 key) ∧ (has (cur F.S (placeOf key F.P)).2 key = false → fromOf (cur F.S (placeOf key F.P)).2 key = 0) := by
    rw [from_val hrise, has_val hrise]
    cases hx : val (cur F.S (placeOf key F.P)).2 key with
    | none => exact ⟨by unfold is64; simp, fun _ => rfl⟩
    | some x =>
      have := (val_some hrise key x).1 hx
      exact ⟨hpv.2 _ this, fun e => by simp at e⟩
  have := set_ok (key := key) (had := has (cur F.S (placeOf key F.P)).2 key) (has := true) (old := fromOf (cur F.S (placeOf key F.P)).2 key) (new := v) h hid hf hk ⟨hold.1, hv⟩ hold.2 (fun e => by cases e) (.inr rfl) hh hfr (fun hn _ l hl hl2 => ?_) (fun e => by cases e)
  · obtain ⟨a, b, c, d, e⟩ := this
    exact ⟨a, b, c, d, fun k => by rw [e k]; simp⟩
  · have hno : has (cur F.S (placeOf key F.P)).2 key = false := by rw [has_val hrise, hv2, hn]; rfl
    have hfb := hfull.resolve_left (by rw [hno]; decide)
    unfold fullB at hfb
    have hlt : (cur F.S (placeOf key F.P)).2.length + (moreL F key).length < 20 := by simpa using hfb
    have := nodup_sub (b := moreL F key) hl fun k hk2 => by
      obtain ⟨q1, q2, q3, lk, q4, q5, q6⟩ := hl2 k hk2
      unfold moreL
      rw [List.mem_filter]
      refine ⟨?_, ?_⟩
      · unfold heldL
        exact List.mem_map.2 ⟨lk, List.mem_filter.2 ⟨q4, by simp [q5]⟩, q6⟩
      · have : has (cur F.S (placeOf key F.P)).2 k = false := by
          rw [has_val hrise]
          unfold vals at q3
          rw [q2] at q3
          rw [q3]; rfl
        simp [this, q1, q2]
    omega
end Go.Proofs.YtaplpeoikebedaaGreatDoor.StoreI
namespace Go.Proofs.YtaplpeoikebedaaGreatDoor.FwdN
open Go.RowKit Go.Maps YtaplpeoikebedaaGreatDoorW.PrintWords YtaplpeoikebedaaGreatDoorW.PrintLast YtaplpeoikebedaaGreatDoorW.PrintMore
open See Mem Page Disk DiskN Pool3 Wal Fresh SysD SysM StoreD StoreF StoreI TransT LockT LockU SpaceT WaitT FwdM FwdP FwdC
attribute [local go_sem] max2_imax min2_imin max_two min_two
theorem ofm_made (W : World) (m : Int) (hm : 0 ≤ m) : OfM (W.alloc (.map #[] 0)) W.heap.size m (fun _ => 0) := ⟨0, _, World.ownsMap_made W _ _ _, by simpa using hm, fun s => rfl⟩
theorem ofm_put {w w' : World} {mp n : Nat} {D : DataW Unit} {of : Int → Int} {m s v : Int} (ho : w.ownsMap Tryz.prog 3 (plainElem Tryz.prog 3) mp n D) (hat : ∀ s : Int, D.atKey (.int .i64 s) (.lit (.int .i64 0)) = .lit (.int .i64 (of s)))
    (h' : w'.ownsMap Tryz.prog 3 (plainElem Tryz.prog 3) mp (n + 1) (D.put (.int .i64 s) (.lit (.int .i64 v)))) (hn : (n : Int) + 1 ≤ m) : OfM w' mp m (upd of s v) := by
  refine ⟨n + 1, _, h', by push_cast; exact hn, fun t => ?_⟩
  unfold upd
  by_cases e : t = s
  · rw [if_pos e, e]
    exact atKey_put_same (k := .int .i64 s) ho.isMap trivial _ _
  · rw [if_neg e, atKey_put_other (fun h => e (by injection h)), hat]
end Go.Proofs.YtaplpeoikebedaaGreatDoor.FwdN
namespace Go.Proofs.YtaplpeoikebedaaGreatDoor.FwdO
open Go.RowKit Go.Maps YtaplpeoikebedaaGreatDoorW.PrintWords YtaplpeoikebedaaGreatDoorW.PrintLast YtaplpeoikebedaaGreatDoorW.PrintMore
open See Mem Page Disk DiskN RecD Wal SysD SysM StoreD StoreF StoreI TransT LockT LockU SpaceT WaitT FwdM FwdP FwdC FwdN
attribute [local go_sem] max2_imax min2_imin max_two min_two
structure NewIn (w : World) (P blocks frames sess room most : Int) (lp pp sp qp mp : Nat) (wx : World) : Prop where
  box : wx.heap[sp]? = some (.cells (fwCells P blocks frames sess lp pp (.slice none 0 0) (.slice none 0 0) 0 qp mp) 118 (0, 0))
  room : SpM wx qp room 0
  of : OfM wx mp most (fun _ => 0)
  b : Below w.heap.size w wx
  s : w.heap.size ≤ sp ∧ w.heap.size ≤ qp ∧ w.heap.size ≤ mp
def stO (P blocks frames sess : Int) (lp pp qp mp : Nat) : Obj := .cells (fwCells P blocks frames sess lp pp (.slice none 0 0) (.slice none 0 0) 0 qp mp) 118 (0, 0)
def spO (room : Int) : Obj := .cells #[.int .i64 room, .int .i64 0] 193
theorem push_size (w : World) (o : Obj) : (w.alloc o).heap.size = w.heap.size + 1 := by show (w.heap.push _).size = _; rw [Array.size_push]
section
variable {w wq : World} {P blocks frames sess room most : Int} {lp pp : Nat}
theorem newA (hb : Below w.heap.size w wq) (hm : 0 ≤ most) : NewIn w P blocks frames sess room most lp pp (wq.heap.size + 1 + 1) (wq.heap.size + 1) wq.heap.size (((wq.alloc (.map #[] 0)).alloc (spO room)).alloc (stO P blocks frames sess lp pp (wq.heap.size + 1) wq.heap.size)) := by
  have s1 := push_size wq (.map #[] 0)
  have s2 := push_size (wq.alloc (.map #[] 0)) (spO room)
  have hs := hb.size
  refine ⟨?_, ?_, ?_, below_alloc (below_alloc (below_alloc hb _) _) _, by omega, by omega, by omega⟩
  · have := heap_alloc_new ((wq.alloc (.map #[] 0)).alloc (spO room)) (stO P blocks frames sess lp pp (wq.heap.size + 1) wq.heap.size)
    rw [s2, s1] at this
    exact this
  · have := heap_alloc_new (wq.alloc (.map #[] 0)) (spO room)
    rw [s1] at this
    exact (Below.heap_alloc _ _ _ (by omega)).trans this
  · exact ((ofm_made wq most hm).below (below_alloc (Below.refl _ _) _)).below (below_alloc (Below.refl _ _) _)
theorem newC (hb : Below w.heap.size w wq) (hm : 0 ≤ most) : NewIn w P blocks frames sess room most lp pp (wq.heap.size + 1 + 1) wq.heap.size (wq.heap.size + 1) (((wq.alloc (spO room)).alloc (.map #[] 0)).alloc (stO P blocks frames sess lp pp wq.heap.size (wq.heap.size + 1))) := by
  have s1 := push_size wq (spO room)
  have s2 := push_size (wq.alloc (spO room)) (.map #[] 0)
  have hs := hb.size
  refine ⟨?_, ?_, ?_, below_alloc (below_alloc (below_alloc hb _) _) _, by omega, by omega, by omega⟩
  · have := heap_alloc_new ((wq.alloc (spO room)).alloc (.map #[] 0)) (stO P blocks frames sess lp pp wq.heap.size (wq.heap.size + 1))
    rw [s2, s1] at this
    exact this
  · have h1 : SpM (wq.alloc (spO room)) wq.heap.size room 0 := heap_alloc_new wq (spO room)
    exact (h1.below (below_alloc (Below.refl _ _) _)).below (below_alloc (Below.refl _ _) _)
  · have := ofm_made (wq.alloc (spO room)) most hm
    rw [s1] at this
    exact this.below (below_alloc (Below.refl _ _) _)
theorem newB {V : World} (hO : OfM V (w.heap.size + 1) most (fun _ => 0)) (hV : Below w.heap.size w V) (hb : Below V.heap.size V wq) : NewIn w P blocks frames sess room most lp pp (wq.heap.size + 1) wq.heap.size (w.heap.size + 1) ((wq.alloc (spO room)).alloc (stO P blocks frames sess lp pp wq.heap.size (w.heap.size + 1))) := by
  have s1 := push_size wq (spO room)
  have hs := hb.size
  have hv := hV.size
  have hbw : Below w.heap.size w wq := below_step hV hb
  refine ⟨?_, ?_, ?_, below_alloc (below_alloc hbw _) _, by omega, by omega, by omega⟩
  · have := heap_alloc_new (wq.alloc (spO room)) (stO P blocks frames sess lp pp wq.heap.size (w.heap.size + 1))
    rw [s1] at this
    exact this
  · have h1 : SpM (wq.alloc (spO room)) wq.heap.size room 0 := heap_alloc_new wq (spO room)
    exact h1.below (below_alloc (Below.refl _ _) _)
  · exact ((hO.below hb).below (below_alloc (Below.refl _ _) _)).below (below_alloc (Below.refl _ _) _)
theorem new_fin {M : Nat → Prop} {dp sp qp mp : Nat} {S : PSys} {wc : World} (h : SysM M w pp lp dp S) (hm : 0 ≤ most) (hn : NewIn w P blocks frames sess room most lp pp sp qp mp wc) (hr : S.l.room = room) :
    FwM (Gr M w (wc.setCell ⟨sp, 9, none⟩ (.int .i64 (imax 0 most)))) (wc.setCell ⟨sp, 9, none⟩ (.int .i64 (imax 0 most))) sp lp pp dp qp mp blocks frames ⟨S, P, sess, [], [], most, room, 0, fun _ => 0⟩ ∧ Below w.heap.size w (wc.setCell ⟨sp, 9, none⟩ (.int .i64 (imax 0 most))) := by
  have hB : Below w.heap.size w (wc.setCell ⟨sp, 9, none⟩ (.int .i64 (imax 0 most))) := hn.b.setCell hn.s.1 _
  have hi : imax 0 most = most := by unfold imax; split <;> omega
  have hbox := heap_setCell_same wc sp 9 _ _ (.int .i64 (imax 0 most)) hn.box
  have hq : qp ≠ sp := fun e => by
    have h1 := hn.room
    unfold SpM at h1
    rw [e, hn.box] at h1
    injection h1 with h1; injection h1 with _ h1
    exact absurd h1 (by decide)
  have hmp : mp ≠ sp := fun e => by
    obtain ⟨n, D, ⟨es, cl, h1, _⟩, _⟩ := hn.of
    rw [e, hn.box] at h1
    cases h1
  have hsz : (wc.setCell ⟨sp, 9, none⟩ (.int .i64 (imax 0 most))).heap.size = wc.heap.size := by simp [World.setCell]
  have hlt : ∀ {j : Nat} {o : Obj}, wc.heap[j]? = some o → j < (wc.setCell ⟨sp, 9, none⟩ (.int .i64 (imax 0 most))).heap.size := fun h => by rw [hsz]; exact heap_lt h
  refine ⟨⟨⟨.slice none 0 0, .slice none 0 0, ?_, LR.nil _, fun k hk => by simp [Value.ownBlock] at hk, TR.nil _, fun k hk => by simp [Value.ownBlock] at hk⟩, (h.below hB).mono fun k hk => .inl hk, ?_, ?_, .inr ⟨hn.s.1, hlt hn.box⟩, .inr ⟨hn.s.2.1, hlt hn.room⟩, .inr ⟨hn.s.2.2, ?_⟩⟩, hB⟩
  · rw [hi] at hbox ⊢
    exact hbox
  · exact (Below.heap_setCell _ _ _ _ hq).trans hn.room
  · obtain ⟨n, D, ⟨es, cl, h1, h2⟩, h3⟩ := hn.of
    exact ⟨n, D, ⟨es, cl, (Below.heap_setCell _ _ _ _ hmp).trans h1, h2⟩, h3⟩
  · obtain ⟨n, D, ⟨es, cl, h1, _⟩, _⟩ := hn.of
    exact hlt h1
end
theorem cfg_cells {w : World} {b : Nat} {x0 x1 x2 x3 : Value} (h : w.heap[b]? = some (.cells #[x0, x1, x2, x3] 31 (0, 0))) :
    w.cell? ⟨b, 0, none⟩ = some x0 ∧ w.cell? ⟨b, 1, none⟩ = some x1 ∧ w.cell? ⟨b, 2, none⟩ = some x2 ∧ w.cell? ⟨b, 3, none⟩ = some x3 := by
  refine ⟨?_, ?_, ?_, ?_⟩ <;> simp [World.cell?, h]
theorem new_calls (M : Nat → Prop) (lp pp dp : Nat) (S : PSys) (P blocks frames sess most : Int) (w : World) (h : SysM M w pp lp dp S) (hr : 0 ≤ S.l.room ∧ S.l.room ≤ 1073741824) (hm : 0 ≤ most) :
    Calls Tryz.prog 58 #[.agg #[.int .i64 P, .int .i64 blocks, .int .i64 frames, .int .i64 sess], .pointer (some ⟨lp, 0, none⟩), .pointer (some ⟨pp, 0, none⟩), .int .i64 most] w fun e w' =>
      ∃ sp qp mp, e = .returned (.pointer (some ⟨sp, 0, none⟩)) ∧ FwM (Gr M w w') w' sp lp pp dp qp mp blocks frames ⟨S, P, sess, [], [], most, S.l.room, 0, fun _ => 0⟩ ∧ Below w.heap.size w w' := by
  obtain ⟨lv, hlg⟩ := h.log
  obtain ⟨room, hroom⟩ : ∃ r, S.l.room = r := ⟨_, rfl⟩
  have HROOM := Aside0.mk (fun (W : World) (hb : Below w.heap.size w W) => by
    have := room_log M lp dp lv S.l W (hlg.below hb)
    rw [hroom] at this
    exact this)
  have HROOM2 := Aside0.mk (fun (W : World) (hb : Below w.heap.size w W) (o : Obj) (ho : W.heap[w.heap.size]? = some o) => (HROOM.out W hb).mono (fun e w' hh => (⟨hh.1, hh.2, (hh.2.block _ (heap_lt ho)).trans ho⟩ : e = .returned (.int .i64 room) ∧ Below W.heap.size W w' ∧ w'.heap[w.heap.size]? = some o)))
  have HF := Aside0.mk h
  have HM := Aside0.mk hm
  rw [hroom] at hr ⊢
  obtain ⟨hr0, hr1⟩ := hr
  have HHR := Aside0.mk hroom
  clear h hlg hroom hm
  have hmm := @run_makeMap Tryz.prog
  go_enter Tryz.func58, Tryz.ntmps58
  go_upto_region 1 with fail
  go_cut [9] (fun v9 wx => ∃ sp qp mp, v9 = .pointer (some ⟨sp, 0, none⟩) ∧ Aside0 (NewIn w P blocks frames sess room most lp pp sp qp mp wx))
  case first =>
    go_region_law (first
      | (go_simp; go_at_call 18; refine (HROOM2.out _ (by repeat (first | exact Below.refl _ _ | apply below_drew1 | apply below_alloc)) (.cells #[.int .i64 P, .int .i64 blocks, .int .i64 frames, .int .i64 sess] 31 (0, 0)) (by first | exact heap_alloc_new w _ | exact (Below.heap_alloc _ _ _ (by show _ < (w.heap.push _).size; rw [Array.size_push]; omega)).trans (heap_alloc_new w _))).mono ?_; rintro e wq ⟨rfl, hq, hcf⟩; obtain ⟨c0, c1, c2, c3⟩ := cfg_cells hcf; have hlq := heap_lt hcf)
      | (go_simp; go_at_call 110; refine (new_space room hr0 hr1 _).mono ?_; rintro e wq ⟨rfl, rfl⟩))
    all_goals
      go_wp2_with fail
      go_meet
      first
        | exact ⟨_, _, _, rfl, ⟨newA (below_step (by repeat (first | exact Below.refl _ _ | apply below_drew1 | apply below_alloc)) hq) HM.out⟩⟩
        | exact ⟨_, _, _, rfl, ⟨newC (below_step (by repeat (first | exact Below.refl _ _ | apply below_drew1 | apply below_alloc)) hq) HM.out⟩⟩
        | exact ⟨_, _, _, rfl, ⟨newB (by have := ofm_made (w.alloc (.cells #[.int .i64 P, .int .i64 blocks, .int .i64 frames, .int .i64 sess] 31)) most HM.out; rw [push_size] at this; exact this) (by repeat (first | exact Below.refl _ _ | apply below_drew1 | apply below_alloc)) hq⟩⟩
  case rest =>
    obtain ⟨sp, qp, mp, rfl, HN⟩ := hcut
    have hf9 : wc.frozen? ⟨sp, 9, none⟩ = false := by simp [World.frozen?, HN.out.box]
    have hc9 : wc.cell? ⟨sp, 9, none⟩ = some (.int .i64 0) := by simp [World.cell?, HN.out.box, fwCells]
    go_wp2_with fail
    refine (tseen_calls sp 8 0 most _ hc9 hf9).mono ?_
    rintro e w2 ⟨rfl, hw2⟩
    have HW2 := Aside0.mk hw2
    clear hw2 hc9 hf9
    go_wp2_with fail
    go_ret
    obtain ⟨h1, h2⟩ := new_fin HF.out HM.out HN.out HHR.out
    rw [← HW2.out] at h1 h2
    exact ⟨sp, qp, mp, rfl, h1, h2⟩
end Go.Proofs.YtaplpeoikebedaaGreatDoor.FwdO
namespace Go.Proofs.YtaplpeoikebedaaGreatDoor.FwdE
open Go.RowKit Go.Maps YtaplpeoikebedaaGreatDoorW.PrintWords YtaplpeoikebedaaGreatDoorW.PrintLast YtaplpeoikebedaaGreatDoorW.PrintMore
open See Mem Page Dirty SysD SysM StoreD StoreF TransT LockT LockU SpaceT WaitT FwdM FwdC
attribute [local go_sem] max2_imax min2_imin max_two min_two
theorem called_none (M : Nat → Prop) (sp lp pp dp qp mp : Nat) (blocks frames : Int) (F : FS) (n : Int) (w : World) (h : FwM M w sp lp pp dp qp mp blocks frames F) (h0 : 0 ≤ n) (h1 : n < F.sess) (h2 : F.sess ≤ 1000) (hx : thas F.ts (F.of n) = false) (a : Nat → Addr) (hs : SentsK [1, 12] w a) (hr : Rising (kvT F.ts)) :
    Calls Tryz.prog 61 #[.pointer (some ⟨sp, 0, none⟩), .int .i64 n] w fun e w' => e = .returned (.tuple #[txV tx0, errv a (some 12)]) ∧ Below w.heap.size w w' := by
  have HF := Aside0.mk (fun (W : World) (hb : Below w.heap.size w W) => h.below hb)
  obtain ⟨kv, tv, b1, _, _, b4, _⟩ := h.box
  have HG := Aside0.mk (fun (W : World) (hb : Below w.heap.size w W) => by
    have := tget_calls sp 8 tv F.ts (F.of n) W (b4.below hb) hr (pw_cell_below hb (show w.cell? ⟨sp, 8, none⟩ = some tv by simp [World.cell?, b1, fwCells]))
    rw [hx] at this
    exact this)
  have HSE := Aside0.mk (fun (W : World) (hb : Below w.heap.size w W) => (hs.below hb).cell 12 (by decide))
  have hspl := heap_lt b1
  have HGL := Aside0.mk (show 1 < w.heap.size from World.block_lt_of_cell? _ _ (hs.cell 12 (by decide)))
  have hxx : tget F.ts (F.of n) = tx0 := by unfold tget; rw [hx]; rfl
  obtain ⟨c, hc⟩ : ∃ c, F.of n = c := ⟨_, rfl⟩
  rw [hxx] at HG
  rw [hc] at HG
  obtain ⟨sess, hsess⟩ : ∃ s, F.sess = s := ⟨_, rfl⟩
  rw [hsess] at h1 h2
  obtain ⟨W, hW⟩ : ∃ W, w.alloc z4 = W := ⟨_, rfl⟩
  have hWs : W.heap.size = w.heap.size + 1 := by rw [← hW]; show (w.heap.push _).size = _; rw [Array.size_push]
  have hBW : Below w.heap.size w W := by rw [← hW]; exact below_alloc (Below.refl _ _) _
  have hlk := OfM.look (HF.out W hBW).of (s := n) (by omega) (by omega)
  have hlk2 := OfM.look (HF.out (W.alloc z4) (below_alloc hBW _)).of (s := n) (by omega) (by omega)
  have hlk3 := OfM.look (HF.out W.drew (below_drew1 hBW)).of (s := n) (by omega) (by omega)
  have hlk4 := OfM.look (HF.out (W.alloc z4).drew (below_drew1 (below_alloc hBW _))).of (s := n) (by omega) (by omega)
  have hlk5 := OfM.look (HF.out (W.drew.alloc z4) (below_alloc (below_drew1 hBW) _)).of (s := n) (by omega) (by omega)
  rw [hc] at hlk hlk2 hlk3 hlk4 hlk5
  obtain ⟨_, k3, _, _, k7, _, _, k11⟩ := (HF.out W hBW).cells
  obtain ⟨_, _, _, _, _, _, _, j11⟩ := (HF.out (W.alloc z4) (below_alloc hBW _)).cells
  rw [hsess] at k3
  have hR0 : W.heap[w.heap.size]? = some z4 := by rw [← hW]; exact heap_alloc_new _ _
  have HW := Aside0.mk hW
  have HBW := Aside0.mk hBW
  have HR0 := Aside0.mk hR0
  have hd1 : decide (n < 0) = false := decide_eq_false (by omega)
  have hd2 : decide (sess ≤ n) = false := decide_eq_false (by omega)
  have hspW : sp < W.heap.size := by omega
  have HWS := Aside0.mk hWs
  clear h b1 b4 hx hr hxx hs hc hsess hW hBW hR0 hWs
  go_enter Tryz.func61, Tryz.ntmps61
  go_wp2_with fail
  rw [show w.alloc (.cells #[.int .i64 0, .int .i64 0, .int .i64 0, .int .i64 0] 102) = W from HW.out]
  refine (wclear_nil sp 7 n _ k7 (by omega) (by omega)).mono ?_
  rintro e w' ⟨rfl, rfl⟩
  have HG2 := Aside0.mk (fun (V : World) (hb : Below w.heap.size w V) (b : Nat) (o : Obj) (hx : V.heap[b]? = some o) => (HG.out V hb).mono (fun e w' h => (⟨h.1, h.2, (h.2.block b (heap_lt hx)).trans hx⟩ : e = .returned (.tuple #[txV tx0, .bool false]) ∧ Below V.heap.size V w' ∧ w'.heap[b]? = some o)))
  simp only [txV, tx0, z4, errv] at *
  go_wp2_with fail
  go_region_law (first
    | (go_simp; go_at_call 113; refine (HG2.out _ (by repeat (first | exact HBW.out | apply below_drew1 | apply below_alloc)) W.heap.size _ (by exact heap_alloc_new W _)).mono ?_; rintro e w2 ⟨rfl, hb2, hbo⟩; obtain ⟨o0, o1, o2, o3, g0, g1, g2, g3⟩ := tx_cells hbo)
    | (go_simp; go_at_call 113; refine (HG.out _ (by repeat (first | exact HBW.out | apply below_drew1 | apply below_alloc))).mono ?_; rintro e w2 ⟨rfl, hb2⟩))
  all_goals
    have hR2 : w2.heap[w.heap.size]? = some (.cells #[.int .i64 0, .int .i64 0, .int .i64 0, .int .i64 0] 102 (0, 0)) := by
      first
        | exact (hb2.block w.heap.size (by show _ < (W.heap.push _).size; rw [Array.size_push, HWS.out]; omega)).trans ((Below.heap_alloc W _ _ (by rw [HWS.out]; omega)).trans HR0.out)
        | exact (hb2.block w.heap.size (by show _ < W.heap.size; rw [HWS.out]; omega)).trans HR0.out
    have hB2 : Below w.heap.size w w2 := below_step (by repeat (first | exact HBW.out | apply below_drew1 | apply below_alloc)) hb2
    obtain ⟨r0, r1, r2, r3, s0, s1, s2, s3⟩ := tx_cells hR2
    have hlt := heap_lt hR2
    have hne1 : W.heap.size ≠ w.heap.size := by have := HWS.out; omega
    have hne2 : w.heap.size ≠ W.heap.size := by have := HWS.out; omega
    have HB2 := Aside0.mk hB2
    have hle : w.heap.size ≤ W.heap.size := by have := HWS.out; omega
    clear hb2 hB2 hlk hlk2 hlk3 hlk4 hlk5
    go_wp2_with fail
    first
      | (have hcc : (((w2.setCell ⟨W.heap.size, 0, none⟩ (.int .i64 0)).setCell ⟨W.heap.size, 1, none⟩ (.int .i64 0)).setCell ⟨W.heap.size, 2, none⟩ (.int .i64 0)).setCell ⟨W.heap.size, 3, none⟩ (.int .i64 0) = txPut w2 W.heap.size ⟨0, 0, 0, 0⟩ := rfl
         rw [hcc]
         have hp := (txPut_other hne2 ⟨0, 0, 0, 0⟩).trans hR2
         have hbw := txPut_below HB2.out hle ⟨0, 0, 0, 0⟩
         obtain ⟨wx, hwx⟩ : ∃ wx, txPut w2 W.heap.size ⟨0, 0, 0, 0⟩ = wx := ⟨_, rfl⟩
         rw [hwx] at hp hbw ⊢)
      | (have hp := (Below.heap_alloc w2 z4 _ hlt).trans hR2
         have hbw := below_alloc HB2.out z4
         obtain ⟨wx, hwx⟩ : ∃ wx, w2.alloc z4 = wx := ⟨_, rfl⟩
         rw [hwx] at hp hbw
         rw [show w2.alloc (.cells #[.int .i64 0, .int .i64 0, .int .i64 0, .int .i64 0] 102) = wx from hwx])
    have hlx := heap_lt hp
    obtain ⟨y0, y1, y2, y3, _, _, _, _⟩ := tx_cells hp
    have HBX := Aside0.mk hbw
    have hg12 : wx.cell? ⟨1, 0, none⟩ = some (.iface 333 (.pointer (some (a 12)))) := HSE.out wx hbw
    have hgl := HGL.out
    have hgne : w.heap.size ≠ 1 := by omega
    have hgne2 : 1 ≠ w.heap.size := by omega
    clear r0 r1 r2 r3 s0 s1 s2 s3 hR2
    have hpp := txPut_heap hp ⟨0, 0, 0, 0⟩
    have HBY := Aside0.mk (txPut_below hbw (Nat.le_refl _) ⟨0, 0, 0, 0⟩)
    have HWY := Aside0.mk (show (((wx.setCell ⟨w.heap.size, 0, none⟩ (.int .i64 0)).setCell ⟨w.heap.size, 1, none⟩ (.int .i64 0)).setCell ⟨w.heap.size, 2, none⟩ (.int .i64 0)).setCell ⟨w.heap.size, 3, none⟩ (.int .i64 0) = txPut wx w.heap.size ⟨0, 0, 0, 0⟩ from rfl)
    obtain ⟨wy, hwy⟩ : ∃ wy, txPut wx w.heap.size ⟨0, 0, 0, 0⟩ = wy := ⟨_, rfl⟩
    rw [hwy] at hpp HBY HWY
    have HPP := Aside0.mk hpp
    clear hpp hwy hwx hp hbw
    go_region_law (fail)
    all_goals
      go_wp2_with fail
      rw [HWY.out]
      obtain ⟨u0, u1, u2, u3, _, _, _, _⟩ := tx_cells HPP.out
      have hly := heap_lt HPP.out
      refine bodyPost_ret (v := .tuple #[.agg #[.int .i64 0, .int .i64 0, .int .i64 0, .int .i64 0], .iface 333 (.pointer (some (a 12)))]) ?_ rfl ⟨rfl, by repeat (first | exact HBY.out | apply below_drew1 | apply below_alloc)⟩
      simp [results, Tryz.results61, go_sem, u0, u1, u2, u3, hly]
end Go.Proofs.YtaplpeoikebedaaGreatDoor.FwdE
namespace Go.Proofs.YtaplpeoikebedaaGreatDoor.StoreJ
open Go.RowKit See Mem Page PageB PageR PageL Disk DiskW RecD Dirty Dirty2 SysD SysM Wal WalF GoodD PoolG PoolS FlushG Fresh DirtD Pager StoreD PageM StoreF StoreG StoreH LockT LockU StoreI
def putR (F : FS) (n key v hint : Int) : FS × Int × Bool × Option Nat :=
  if has (cur F.S (placeOf key F.P)).2 key = false ∧ fullB (takesF F n key 2 hint) key = true then (takesF F n key 2 hint, 0, false, some 9)
  else if F.free < 2 then (takesF F n key 2 hint, 0, false, some 8)
  else (setF (takesF F n key 2 hint) (F.of n) key (has (cur F.S (placeOf key F.P)).2 key) (fromOf (cur F.S (placeOf key F.P)).2 key) true v, fromOf (cur F.S (placeOf key F.P)).2 key, has (cur F.S (placeOf key F.P)).2 key, none)
theorem FOk.loosen {N m m' : Nat} {ch : Int → List Int} {kp : Int → Int} {F : FS} (h : FOk N m ch kp F) (hm : m ≤ m') : FOk N m' ch kp F :=
  ⟨⟨h.g.pg, h.g.fit, h.g.lok, h.g.fuse, h.g.loose.mono hm, h.g.lsn, h.g.six, h.g.p32, h.g.room⟩, h.t, h.c⟩
theorem tab_few {N : Nat} {P : Int} {S : PSys} (h : PgOk N P S) : (S.t.length : Int) ≤ S.frames := by
  have h1 : (S.t.map (·.1)).Nodup := by
    unfold List.Nodup
    rw [List.pairwise_map]
    exact h.rise.imp fun hab e => by omega
  have h2 := nodup_sub (b := S.here.map (·.n)) h1 fun x hx => by
    obtain ⟨d, hd, rfl⟩ := List.mem_map.1 hx
    obtain ⟨⟨f, hf, e⟩, _⟩ := h.tab d hd
    exact List.mem_map.2 ⟨f, hf, e⟩
  rw [List.length_map, List.length_map] at h2
  have := h.few
  omega
end Go.Proofs.YtaplpeoikebedaaGreatDoor.StoreJ
namespace Go.Proofs.YtaplpeoikebedaaGreatDoor.RoomD
open Go.RowKit See Mem Page PageB PageR PageL Disk DiskW RecD Dirty Dirty2 SysD SysM Wal WalF GoodD PoolG PoolS FlushG Fresh DirtD Pager StoreD PageM StoreF StoreG StoreH TransT LockT LockU StoreI StoreJ
def ownR (k : Int) : Int := k / 100
structure RSt (N i : Nat) (F : FS) (opn chg : Int) : Prop where
  ok : ∃ ch, FOk N i ch (fun _ => 2) F
  ks : KOk ownR F.ks
  kl : F.ks.length ≤ i
  most : F.most ≤ i
  sess : F.sess = 4
  P : F.P = 8
  kept : F.kept = 2 * opn + chg
  few : 0 ≤ opn ∧ opn ≤ i ∧ 0 ≤ chg ∧ chg ≤ i
theorem tx_none {F : FS} (h : TOk F) : thas F.ts 0 = false := by
  rw [Bool.eq_false_iff]
  intro e
  obtain ⟨x, hx, e2⟩ := (thas_iff h.rise _).1 e
  have := (h.ids x hx).1
  omega
theorem begin_ts {ts : List Tx} {m l : Int} (hm : ∀ t ∈ ts, t.id ≤ m) : tnote (ts ++ [⟨m + 1, 0, 0, 0⟩]) (m + 1) l 0 = ts ++ [⟨m + 1, 0, l, 0⟩] := by
  obtain ⟨h1, h2, h3⟩ := tadd_last (ts := ts) (x := ⟨m + 1, 0, 0, 0⟩) (fun t ht => by have := hm t ht; show t.id < m + 1; omega)
  have hpos : tpos (ts ++ [⟨m + 1, 0, 0, 0⟩]) (m + 1) = ts.length := by
    have key : ∀ (l : List Tx), (∀ t ∈ l, t.id ≤ m) → tpos (l ++ [⟨m + 1, 0, 0, 0⟩]) (m + 1) = l.length := by
      intro l
      induction l with
      | nil => intro _; simp [tpos, kvT, pos]
      | cons a aa ih =>
        intro hl
        have h : pos ((aa ++ [(⟨m + 1, 0, 0, 0⟩ : Tx)]).map fun t : Tx => (t.id, t.state)) (m + 1) = aa.length := ih fun t ht => hl t (List.mem_cons_of_mem _ ht)
        have ha := hl a List.mem_cons_self
        show (if a.id < m + 1 then pos ((aa ++ [(⟨m + 1, 0, 0, 0⟩ : Tx)]).map fun t => (t.id, t.state)) (m + 1) + 1 else 0) = _
        rw [if_pos (by omega), h]
        rfl
    exact key ts hm
  have hhas : thas (ts ++ [⟨m + 1, 0, 0, 0⟩]) (m + 1) = true := by
    rw [thas_eq, hpos]
    simp
  unfold tnote
  rw [if_pos hhas, hpos]
  have : ∀ (l1 : List Tx) (x : Tx) (f : Tx → Tx), (l1 ++ [x]).modify l1.length f = l1 ++ [f x] := by
    intro l1
    induction l1 with
    | nil => intro x f; rfl
    | cons a aa ih => intro x f; simp [List.modify_succ_cons, ih]
  rw [this]
end Go.Proofs.YtaplpeoikebedaaGreatDoor.RoomD
