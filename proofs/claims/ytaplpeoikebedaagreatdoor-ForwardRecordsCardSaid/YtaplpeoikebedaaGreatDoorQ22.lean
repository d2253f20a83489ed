/- Joined texts: StoreG, StoreH. No condition but what each says. -/
import Derived.Test.YtaplpeoikebedaaGreatDoorQ21
namespace Go.Proofs.YtaplpeoikebedaaGreatDoor.StoreG
open Go.RowKit Go.Proofs.YtaplpeoikebedaaGreatDoor.See Go.Proofs.YtaplpeoikebedaaGreatDoor.Mem Go.Proofs.YtaplpeoikebedaaGreatDoor.Clone Go.Proofs.YtaplpeoikebedaaGreatDoor.Cell Go.Proofs.YtaplpeoikebedaaGreatDoor.Page Go.Proofs.YtaplpeoikebedaaGreatDoor.PageB Go.Proofs.YtaplpeoikebedaaGreatDoor.PageR Go.Proofs.YtaplpeoikebedaaGreatDoor.PageL Go.Proofs.YtaplpeoikebedaaGreatDoor.Disk Go.Proofs.YtaplpeoikebedaaGreatDoor.DiskN Go.Proofs.YtaplpeoikebedaaGreatDoor.DiskW Go.Proofs.YtaplpeoikebedaaGreatDoor.RecD Go.Proofs.YtaplpeoikebedaaGreatDoor.Dirty Go.Proofs.YtaplpeoikebedaaGreatDoor.Dirty2 Go.Proofs.YtaplpeoikebedaaGreatDoor.SysD Go.Proofs.YtaplpeoikebedaaGreatDoor.SysM Go.Proofs.YtaplpeoikebedaaGreatDoor.Wal Go.Proofs.YtaplpeoikebedaaGreatDoor.WalF Go.Proofs.YtaplpeoikebedaaGreatDoor.GoodD Go.Proofs.YtaplpeoikebedaaGreatDoor.PoolG Go.Proofs.YtaplpeoikebedaaGreatDoor.PoolS Go.Proofs.YtaplpeoikebedaaGreatDoor.FlushG Go.Proofs.YtaplpeoikebedaaGreatDoor.Fresh Go.Proofs.YtaplpeoikebedaaGreatDoor.DirtD Go.Proofs.YtaplpeoikebedaaGreatDoor.PoolA Go.Proofs.YtaplpeoikebedaaGreatDoor.TabL Go.Proofs.YtaplpeoikebedaaGreatDoor.SortI Go.Proofs.YtaplpeoikebedaaGreatDoor.AheadD Go.Proofs.YtaplpeoikebedaaGreatDoor.Pager Go.Proofs.YtaplpeoikebedaaGreatDoor.StoreD Go.Proofs.YtaplpeoikebedaaGreatDoor.PageM Go.Proofs.YtaplpeoikebedaaGreatDoor.StoreF
set_option linter.unusedVariables false
set_option linter.unusedSimpArgs false
/-- A record and the page that it changes: what becomes of pages and log. -/
def chgS (S : PSys) (r : RecV) : PSys := (setS (addRec S r) r.page (S.l.last + 1) (redoE (cur S r.page).2 r)).1
/-- A change of a page that is here. -/
theorem chg_ok {N m : Nat} {F : FS} {r : RecV} {f : Fp} {fr kp : Int} (h : GOk N m F) (hf : findP F.S.here r.page = some f) (hr : recOk r = true) (h6 : is64 r.old ∧ is64 r.new) (hk : 0 ≤ r.key ∧ r.key < 1048576) (hm : 1 ≤ F.S.l.room) (hl : (redoE (cur F.S r.page).2 r).length ≤ 20)
    (h1 : 0 ≤ fr) (h2 : 0 ≤ kp) (h3 : fr + kp = F.S.l.room - 1) :
    setS (addRec F.S r) r.page (F.S.l.last + 1) (redoE (cur F.S r.page).2 r) = (chgS F.S r, none) ∧ GOk N m { F with S := chgS F.S r, free := fr, kept := kp } ∧ (chgS F.S r).l = (addRec F.S r).l ∧ (∀ k, cur (chgS F.S r) k = if k = r.page then (F.S.l.last + 1, redoE (cur F.S r.page).2 r) else cur F.S k) ∧ (chgS F.S r).d = F.S.d := by
  have hg := h.rec_ hr h6 hm h1 h2 h3
  obtain ⟨m1, m2⟩ := find_some hf
  obtain ⟨p1, p2, _⟩ := h.pg.here f m1
  rw [m2] at p1 p2
  have hpv := h.pg.curV p1 p2
  have hl0 : 0 ≤ F.S.l.last := by have := h.lok.base; unfold Lg.last; omega
  have hl1 : F.S.l.last + 1 ≤ 1073741824 := by unfold Lg.room at hm; omega
  have hnv := redo_page (r := r) hpv (show 1 ≤ F.S.l.last + 1 by omega) hl1 hk h6.2 hl
  obtain ⟨S', q1, q2, q3, q4, q5, q6, q7, q8⟩ := pg_set (S := addRec F.S r) (n := r.page) (lsn := F.S.l.last + 1) (es := redoE (cur F.S r.page).2 r) hg.pg hf hnv (by omega) (by rw [addRec_last]; exact Int.le_refl _)
  have e : chgS F.S r = S' := by unfold chgS; rw [q1]
  rw [e]
  refine ⟨q1, ⟨q2, ?_, ?_, ?_, ?_, fun p a b => ?_, ?_, h.p32, h1, h2, ?_⟩, q4, fun k => ?_, by rw [q5]; rfl⟩
  · show S'.l.first + S'.l.blocks ≤ N
    rw [q4]; exact h.fit
  · show S'.l.Ok
    rw [q4]; exact hg.lok
  · show FuseOk S'.d
    rw [q5]; exact h.fuse
  · show LooseLe S'.d m
    rw [q5]; exact h.loose
  · show (cur S' p).1 ≤ S'.l.last
    rw [q3, q4, addRec_last]
    split
    · exact Int.le_refl _
    · have := h.lsn p a b
      show (cur F.S p).1 ≤ _
      omega
  · show ∀ q ∈ S'.l.l, _
    rw [q4]; exact hg.six
  · show fr + kp = S'.l.room
    rw [q4]; exact hg.room.2.2
  · rw [q3]; rfl
/-- What keys have behind a change. -/
theorem vals_chg {F F' : FS} {r : RecV} (hP : F'.P = F.P) (hp : r.page = placeOf r.key F.P) (hr : Rising (cur F.S r.page).2) (hc : ∀ k, cur F'.S k = if k = r.page then (F.S.l.last + 1, redoE (cur F.S r.page).2 r) else cur F.S k) (k : Int) : vals F' k = if k = r.key then (if r.has then some r.new else none) else vals F k := by
  unfold vals
  rw [hP, hc]
  by_cases e : placeOf k F.P = r.page
  · rw [if_pos e]
    simp only
    rw [val_redo hr, e]
  · rw [if_neg e, if_neg]
    intro e2
    exact e (by rw [e2, hp])
/-- A transaction's change. -/
def recSet (x : Tx) (P key : Int) (had : Bool) (old : Int) (has : Bool) (new : Int) : RecV := ⟨2, x.id, placeOf key P, x.last, 0, key, had, has, old, new⟩
def setF (F : FS) (id key : Int) (had : Bool) (old : Int) (has : Bool) (new : Int) : FS :=
  { F with S := chgS F.S (recSet (tget F.ts id) F.P key had old has new), ts := tnote F.ts id (F.S.l.last + 1) (F.S.l.last + 1), free := F.free - 2, kept := F.kept + 1 }
theorem recSet_ok {x : Tx} {P key : Int} {had has : Bool} {old new : Int} (h1 : 1 ≤ x.id ∧ x.id ≤ 60000) (hP : 1 ≤ P ∧ P ≤ 32) (hl : 0 ≤ x.last ∧ x.last ≤ 1073741824) (hk : 0 ≤ key ∧ key < 1048576) (h2 : had = false → old = 0) (h3 : has = false → new = 0) (h4 : had = true ∨ has = true) : recOk (recSet x P key had old has new) = true := by
  obtain ⟨p1, p2⟩ := placeOf_in key hP.1
  unfold recOk recSet inB txnMax pageMax prevOk nextOk rkeyOk valsOk inB
  cases had <;> cases has <;> simp at h2 h3 h4 ⊢ <;> omega
theorem sum_note {ch : Int → List Int} {kp : Int → Int} {ts : List Tx} {id l n : Int} {ks : List Int} (hr : Rising (kvT ts)) (h : thas ts id = true) :
    ((tnote ts id l n).map fun x => kp x.id + ((updc ch id ks x.id).length : Int)).sum = (ts.map fun x => kp x.id + ((ch x.id).length : Int)).sum + ks.length - (ch id).length := by
  obtain ⟨t, h1, h2, h3⟩ := thas_at h
  unfold tnote
  rw [if_pos h]
  have key : ∀ (k : Nat) (ts : List Tx), ts[k]? = some t → (∀ j u, ts[j]? = some u → u.id = id → j = k) → ((ts.modify k fun t => ⟨t.id, t.state, l, n⟩).map fun x => kp x.id + ((updc ch id ks x.id).length : Int)).sum = (ts.map fun x => kp x.id + ((ch x.id).length : Int)).sum + ks.length - (ch id).length := by
    intro k
    induction k with
    | zero =>
      intro ts hk hu
      cases ts with
      | nil => cases hk
      | cons a aa =>
        simp at hk
        subst hk
        rw [List.modify_zero_cons]
        simp only [List.map_cons, List.sum_cons]
        have : (aa.map fun x => kp x.id + ((updc ch id ks x.id).length : Int)).sum = (aa.map fun x => kp x.id + ((ch x.id).length : Int)).sum := sum_congr fun x hx => by
          unfold updc
          rw [if_neg]
          intro e
          obtain ⟨j, hj, e2⟩ := List.getElem_of_mem hx
          have := hu (j + 1) x (by simp [List.getElem?_eq_getElem hj, e2]) e
          omega
        rw [this]
        unfold updc
        rw [h2, if_pos rfl]
        omega
    | succ k ih =>
      intro ts hk hu
      cases ts with
      | nil => cases hk
      | cons a aa =>
        rw [List.modify_succ_cons]
        simp only [List.map_cons, List.sum_cons]
        rw [ih aa (by simpa using hk) (fun j u hj e => by
          have := hu (j + 1) u (by simpa using hj) e
          omega)]
        have : a.id ≠ id := fun e => by
          have := hu 0 a rfl e
          omega
        unfold updc
        rw [if_neg this]
        omega
  exact key _ ts h1 (fun j u hj e => kvT_at hr hj h1 (e.trans h2.symm))
/-- A change. -/
theorem set_ok {N m : Nat} {ch : Int → List Int} {kp : Int → Int} {F : FS} {id key : Int} {had has : Bool} {old new : Int} {f : Fp} (h : FOk N m ch kp F) (hid : thas F.ts id = true) (hf : findP F.S.here (placeOf key F.P) = some f) (hk : 0 ≤ key ∧ key < 1048576) (h6 : is64 old ∧ is64 new) (h2 : had = false → old = 0) (h3 : has = false → new = 0) (h4 : had = true ∨ has = true)
    (hh : ∃ lk ∈ F.ks, lk.mode = 2 ∧ lk.key = key ∧ F.of lk.s = id) (hfr : 2 ≤ F.free)
    (hcap : vals F key = none → has = true → ∀ l : List Int, l.Nodup → (∀ k ∈ l, k ≠ key ∧ placeOf k F.P = placeOf key F.P ∧ vals F k = none ∧ ∃ lk ∈ F.ks, lk.mode = 2 ∧ lk.key = k) → (cur F.S (placeOf key F.P)).2.length + l.length ≤ 19)
    (hdel : has = false → vals F key ≠ none) :
    setS (addRec F.S (recSet (tget F.ts id) F.P key had old has new)) (placeOf key F.P) (F.S.l.last + 1) (redoE (cur F.S (placeOf key F.P)).2 (recSet (tget F.ts id) F.P key had old has new)) = ((setF F id key had old has new).S, none) ∧ recOk (recSet (tget F.ts id) F.P key had old has new) = true ∧ (redoE (cur F.S (placeOf key F.P)).2 (recSet (tget F.ts id) F.P key had old has new)).length ≤ 20 ∧
    FOk N m (updc ch id ((F.S.l.last + 1) :: ch id)) kp (setF F id key had old has new) ∧ ∀ k, vals (setF F id key had old has new) k = if k = key then (if has then some new else none) else vals F k := by
  obtain ⟨hg, ht, hc⟩ := h
  obtain ⟨ro1, ro2, ro3⟩ := hg.room
  have hroom : 1 ≤ F.S.l.room := by omega
  obtain ⟨hx, hxid⟩ := tget_mem hid
  obtain ⟨x, hxx⟩ : ∃ x, tget F.ts id = x := ⟨_, rfl⟩
  rw [hxx] at hx hxid
  obtain ⟨i1, i2⟩ := ht.ids x hx
  obtain ⟨la, lb, lc⟩ := hc.last x hx
  have hl1 : F.S.l.last + 1 ≤ 1073741824 := by unfold Lg.room at hroom; omega
  have hl0 : 0 ≤ F.S.l.last := by have := hg.lok.base; unfold Lg.last; omega
  have hP := hg.pg.pages
  obtain ⟨p1, p2⟩ := placeOf_in key hP
  have hrise : Rising (cur F.S (placeOf key F.P)).2 := PageV.rise (hg.pg.curV p1 p2)
  obtain ⟨r, hr⟩ : ∃ r, recSet x F.P key had old has new = r := ⟨_, rfl⟩
  have r1 : r.page = placeOf key F.P := by rw [← hr]; rfl
  have r2 : r.key = key := by rw [← hr]; rfl
  have r3 : r.has = has := by rw [← hr]; rfl
  have r4 : r.new = new := by rw [← hr]; rfl
  have r5 : r.old = old := by rw [← hr]; rfl
  have r6 : r.kind = 2 := by rw [← hr]; rfl
  have r7 : r.prev = x.last := by rw [← hr]; rfl
  have r8 : r.txn = id := by rw [← hr]; exact hxid
  have hrok : recOk r = true := by rw [← hr]; exact recSet_ok (by have := ht.most; omega) ⟨hP, hg.p32⟩ ⟨lc, by omega⟩ hk h2 h3 h4
  have hvk : vals F key = val (cur F.S (placeOf key F.P)).2 key := rfl
  have hlen : (redoE (cur F.S (placeOf key F.P)).2 r).length ≤ 20 := by
    have h20 := (head_facts (headOk_of (hg.pg.curV p1 p2).1)).2.2
    unfold redoE
    rw [r2, r3, r4]
    split
    · rename_i hh2
      rw [len_put hrise]
      split
      · exact h20
      · rename_i hn
        have := hcap (by rw [hvk]; simpa using hn) hh2 [] List.nodup_nil (fun k hk => by cases hk)
        simp at this
        omega
    · rw [len_drop hrise]
      split <;> omega
  have hfr2 : findP F.S.here r.page = some f := by rw [r1]; exact hf
  obtain ⟨c1, c2, c3, c4, c5⟩ := chg_ok (fr := F.free - 2) (kp := F.kept + 1) hg hfr2 hrok ⟨by rw [r5]; exact h6.1, by rw [r4]; exact h6.2⟩ (by rw [r2]; exact hk) hroom (by rw [r1]; exact hlen) (by omega) (by omega) (by omega)
  have hset : setF F id key had old has new = { F with S := chgS F.S r, ts := tnote F.ts id (F.S.l.last + 1) (F.S.l.last + 1), free := F.free - 2, kept := F.kept + 1 } := by
    unfold setF
    rw [hxx, hr]
  rw [hset, hxx, hr]
  have hvals : ∀ k, vals { F with S := chgS F.S r, ts := tnote F.ts id (F.S.l.last + 1) (F.S.l.last + 1), free := F.free - 2, kept := F.kept + 1 } k = if k = key then (if has then some new else none) else vals F k := fun k => by
    have := vals_chg (F := F) (F' := { F with S := chgS F.S r, ts := tnote F.ts id (F.S.l.last + 1) (F.S.l.last + 1), free := F.free - 2, kept := F.kept + 1 }) (r := r) rfl (by rw [r1, r2]) (by rw [r1]; exact hrise) c4 k
    rw [this, r2, r3, r4]
  have hold : ∀ n q, recOf F.S.l n = some q → recOf (chgS F.S r).l n = some q := fun n q hq => by rw [c3]; exact addRec_rec hq
  have hnew : recOf (chgS F.S r).l (F.S.l.last + 1) = some r := by rw [c3]; exact addRec_new F.S r
  have hlast : (chgS F.S r).l.last = F.S.l.last + 1 := by rw [c3]; exact addRec_last F.S r
  refine ⟨by rw [r1] at c1; exact c1, hrok, hlen, ⟨⟨c2.pg, c2.fit, c2.lok, c2.fuse, c2.loose, c2.lsn, c2.six, c2.p32, c2.room⟩, ⟨tnote_rise ht.rise, fun y hy => ?_, ht.most, fun s hs => ?_, ht.inj, fun y hy => ?_⟩, ⟨fun y hy => ?_, fun y hy => ?_, fun y hy k hk2 q hq => ?_, ?_, fun p a b l hn hl => ?_⟩⟩, hvals⟩
  · rcases mem_tnote ht.rise hid hy with rfl | ⟨hy, _⟩
    · exact ⟨by rw [← hxid]; exact i1, by rw [← hxid]; exact i2⟩
    · exact ht.ids y hy
  · obtain ⟨a, b, c⟩ := ht.ofs s hs
    refine ⟨a, b, ?_⟩
    show thas (tnote F.ts id _ _) (F.of s) = true
    obtain ⟨t, ht2, e⟩ := (thas_iff ht.rise _).1 c
    rw [thas_iff (tnote_rise ht.rise)]
    by_cases e2 : t.id = id
    · refine ⟨⟨id, x.state, F.S.l.last + 1, F.S.l.last + 1⟩, ?_, by rw [← e, e2]⟩
      obtain ⟨u, u1, u2, u3⟩ := thas_at hid
      unfold tnote
      rw [if_pos hid, List.mem_iff_getElem?]
      refine ⟨tpos F.ts id, ?_⟩
      rw [List.getElem?_modify, u1]
      simp [u2, ← u3, hxx, hxid]
    · refine ⟨t, ?_, e⟩
      obtain ⟨u, u1, u2, u3⟩ := thas_at hid
      obtain ⟨j, hj, e3⟩ := List.getElem_of_mem ht2
      unfold tnote
      rw [if_pos hid, List.mem_iff_getElem?]
      refine ⟨j, ?_⟩
      rw [List.getElem?_modify, List.getElem?_eq_getElem hj, e3]
      have : ¬ tpos F.ts id = j := fun e4 => by
        rw [e4, List.getElem?_eq_getElem hj, e3] at u1
        cases u1
        exact e2 u2
      simp [this]
  · rcases mem_tnote ht.rise hid hy with rfl | ⟨hy, _⟩
    · obtain ⟨s, hs⟩ := ht.on x hx
      exact ⟨s, by show F.of s = id; rw [hs, hxid]⟩
    · exact ht.on y hy
  · show Chain (chgS F.S r).l y.last (updc ch id ((F.S.l.last + 1) :: ch id) y.id) ∧ y.last ≤ (chgS F.S r).l.last ∧ 0 ≤ y.last
    rw [hlast]
    rcases mem_tnote ht.rise hid hy with rfl | ⟨hy, hne⟩
    · unfold updc
      rw [if_pos rfl]
      rw [hxid] at la
      exact ⟨.cons (.set (by show F.S.l.last + 1 ≠ 0; omega) hnew r6) (by omega) hnew (by rw [r7]; omega) (by rw [r7]; exact la.keep hold), Int.le_refl _, by show 0 ≤ F.S.l.last + 1; omega⟩
    · obtain ⟨a, b, c⟩ := hc.last y hy
      unfold updc
      rw [if_neg hne]
      exact ⟨a.keep hold, by omega, c⟩
  · show y.next = (updc ch id ((F.S.l.last + 1) :: ch id) y.id).headD 0
    rcases mem_tnote ht.rise hid hy with rfl | ⟨hy, hne⟩
    · unfold updc
      rw [if_pos rfl]
      rfl
    · unfold updc
      rw [if_neg hne]
      exact hc.next y hy
  · have hk3 : k ∈ updc ch id ((F.S.l.last + 1) :: ch id) y.id := hk2
    have hq' : recOf (chgS F.S r).l k = some q := hq
    have old_ : ∀ y ∈ F.ts, k ∈ ch y.id → SOk F y.id q := fun y hy hky => by
      obtain ⟨_, q2, hq2, _⟩ := (hc.last y hy).1.at_ k hky
      rw [hold _ _ hq2] at hq'
      cases hq'
      exact hc.sets y hy k hky q hq2
    rcases mem_tnote ht.rise hid hy with rfl | ⟨hy, hne⟩
    · unfold updc at hk3
      rw [if_pos rfl] at hk3
      rcases List.mem_cons.1 hk3 with rfl | hk3
      · rw [hnew] at hq'
        cases hq'
        exact ⟨r8, by rw [r1, r2], by rw [r2]; exact hh⟩
      · have := old_ x hx (by rw [hxid]; exact hk3)
        rw [hxid] at this
        exact ⟨this.txn, this.page, this.held⟩
    · unfold updc at hk3
      rw [if_neg hne] at hk3
      have := old_ y hy hk3
      exact ⟨this.txn, this.page, this.held⟩
  · show F.kept + 1 = ((tnote F.ts id _ _).map _).sum
    rw [sum_note ht.rise hid, hc.kept, List.length_cons]
    omega
  · show (cur (chgS F.S r) p).2.length + l.length ≤ 20
    have hl' : ∀ k ∈ l, placeOf k F.P = p ∧ (if k = key then (if has then some new else none) else vals F k) = none ∧ (k = key ∨ ∃ y ∈ F.ts, ∃ n ∈ ch y.id, ∃ q, recOf F.S.l n = some q ∧ q.key = k) := fun k hk2 => by
      obtain ⟨a1, a2, y, hy, n, hn2, q, hq, e⟩ := hl k hk2
      refine ⟨a1, by rw [← hvals]; exact a2, ?_⟩
      have hn3 : n ∈ updc ch id ((F.S.l.last + 1) :: ch id) y.id := hn2
      have hq' : recOf (chgS F.S r).l n = some q := hq
      have old_ : ∀ y ∈ F.ts, n ∈ ch y.id → ∃ y ∈ F.ts, ∃ n ∈ ch y.id, ∃ q, recOf F.S.l n = some q ∧ q.key = k := fun y hy hny => by
        obtain ⟨_, q2, hq2, _⟩ := (hc.last y hy).1.at_ n hny
        rw [hold _ _ hq2] at hq'
        cases hq'
        exact ⟨y, hy, n, hny, q, hq2, e⟩
      rcases mem_tnote ht.rise hid hy with rfl | ⟨hy, hne⟩
      · unfold updc at hn3
        rw [if_pos rfl] at hn3
        rcases List.mem_cons.1 hn3 with rfl | hn3
        · rw [hnew] at hq'
          cases hq'
          exact .inl (by rw [← e, r2])
        · exact .inr (old_ x hx (by rw [hxid]; exact hn3))
      · unfold updc at hn3
        rw [if_neg hne] at hn3
        exact .inr (old_ y hy hn3)
    rw [c4]
    by_cases hp : p = r.page
    · rw [if_pos hp]
      simp only
      rw [r1] at hp ⊢
      subst hp
      cases hhas : has with
      | true =>
        have hnk : ∀ k ∈ l, k ≠ key := fun k hk2 e => by
          have := (hl' k hk2).2.1
          rw [if_pos e, hhas] at this
          cases this
        have hl2 : ∀ k ∈ l, placeOf k F.P = placeOf key F.P ∧ vals F k = none ∧ ∃ y ∈ F.ts, ∃ n ∈ ch y.id, ∃ q, recOf F.S.l n = some q ∧ q.key = k := fun k hk2 => by
          obtain ⟨a1, a2, a3⟩ := hl' k hk2
          rw [if_neg (hnk k hk2)] at a2
          exact ⟨a1, a2, a3.resolve_left (hnk k hk2)⟩
        unfold redoE
        rw [r3, hhas, if_pos rfl, r2, len_put hrise]
        split
        · exact hc.cap _ p1 p2 l hn hl2
        · rename_i hnone
          have := hcap (by rw [hvk]; simpa using hnone) hhas l hn (fun k hk2 => by
            obtain ⟨a1, a2, y, hy, n, hn2, q, hq, e⟩ := hl2 k hk2
            obtain ⟨_, _, lk, b1, b2, b3, _⟩ := hc.sets y hy n hn2 q hq
            exact ⟨hnk k hk2, a1, a2, lk, b1, b2, by rw [b3, e]⟩)
          omega
      | false =>
        have hsome := hdel hhas
        unfold redoE
        rw [r3, hhas, if_neg (by decide), r2, len_drop hrise, if_pos (by rw [← hvk]; exact Option.isSome_iff_ne_none.2 hsome)]
        have hes : 0 < (cur F.S (placeOf key F.P)).2.length := by
          rw [hvk] at hsome
          obtain ⟨v, hv⟩ := Option.ne_none_iff_exists'.1 hsome
          exact List.length_pos_of_mem ((val_some hrise _ _).1 hv)
        have hcp := hc.cap _ p1 p2 (l.filter fun k => k != key) (hn.sublist List.filter_sublist) (fun k hk2 => by
          obtain ⟨hk3, hk4⟩ := List.mem_filter.1 hk2
          have hne : k ≠ key := by simpa using hk4
          obtain ⟨a1, a2, a3⟩ := hl' k hk3
          rw [if_neg hne] at a2
          exact ⟨a1, a2, a3.resolve_left hne⟩)
        have hfl : l.length ≤ (l.filter fun k => k != key).length + 1 := by
          clear hl hl' hcp
          induction l with
          | nil => simp
          | cons a aa ih =>
            rw [List.nodup_cons] at hn
            by_cases e : a = key
            · have : aa.filter (fun k => k != key) = aa := List.filter_eq_self.2 fun k hk2 => by
                simp
                intro e2
                exact hn.1 (by rw [e, ← e2]; exact hk2)
              simp [e, this]
            · have := ih hn.2
              simp [e]
              omega
        omega
    · rw [if_neg hp]
      refine hc.cap p a b l hn fun k hk2 => ?_
      obtain ⟨a1, a2, a3⟩ := hl' k hk2
      have hne : k ≠ key := fun e => hp (by rw [r1, ← a1, e])
      rw [if_neg hne] at a2
      exact ⟨a1, a2, a3.resolve_left hne⟩
end Go.Proofs.YtaplpeoikebedaaGreatDoor.StoreG
namespace Go.Proofs.YtaplpeoikebedaaGreatDoor.StoreH
open Go.RowKit Go.Proofs.YtaplpeoikebedaaGreatDoor.See Go.Proofs.YtaplpeoikebedaaGreatDoor.Mem Go.Proofs.YtaplpeoikebedaaGreatDoor.Clone Go.Proofs.YtaplpeoikebedaaGreatDoor.Cell Go.Proofs.YtaplpeoikebedaaGreatDoor.Page Go.Proofs.YtaplpeoikebedaaGreatDoor.PageB Go.Proofs.YtaplpeoikebedaaGreatDoor.PageR Go.Proofs.YtaplpeoikebedaaGreatDoor.PageL Go.Proofs.YtaplpeoikebedaaGreatDoor.Disk Go.Proofs.YtaplpeoikebedaaGreatDoor.DiskN Go.Proofs.YtaplpeoikebedaaGreatDoor.DiskW Go.Proofs.YtaplpeoikebedaaGreatDoor.RecD Go.Proofs.YtaplpeoikebedaaGreatDoor.Dirty Go.Proofs.YtaplpeoikebedaaGreatDoor.Dirty2 Go.Proofs.YtaplpeoikebedaaGreatDoor.SysD Go.Proofs.YtaplpeoikebedaaGreatDoor.SysM Go.Proofs.YtaplpeoikebedaaGreatDoor.Wal Go.Proofs.YtaplpeoikebedaaGreatDoor.WalF Go.Proofs.YtaplpeoikebedaaGreatDoor.GoodD Go.Proofs.YtaplpeoikebedaaGreatDoor.PoolG Go.Proofs.YtaplpeoikebedaaGreatDoor.PoolS Go.Proofs.YtaplpeoikebedaaGreatDoor.FlushG Go.Proofs.YtaplpeoikebedaaGreatDoor.Fresh Go.Proofs.YtaplpeoikebedaaGreatDoor.DirtD Go.Proofs.YtaplpeoikebedaaGreatDoor.PoolA Go.Proofs.YtaplpeoikebedaaGreatDoor.TabL Go.Proofs.YtaplpeoikebedaaGreatDoor.SortI Go.Proofs.YtaplpeoikebedaaGreatDoor.AheadD Go.Proofs.YtaplpeoikebedaaGreatDoor.Pager Go.Proofs.YtaplpeoikebedaaGreatDoor.StoreD Go.Proofs.YtaplpeoikebedaaGreatDoor.PageM Go.Proofs.YtaplpeoikebedaaGreatDoor.StoreF Go.Proofs.YtaplpeoikebedaaGreatDoor.StoreG
set_option linter.unusedVariables false
set_option linter.unusedSimpArgs false
def idsT (ts : List Tx) : List Int := ts.map (·.id)
theorem ids_modify (ts : List Tx) (k : Nat) (f : Tx → Tx) (hf : ∀ t, (f t).id = t.id) : idsT (ts.modify k f) = idsT ts := by
  unfold idsT
  apply List.ext_getElem?
  intro i
  rw [List.getElem?_map, List.getElem?_map, List.getElem?_modify]
  cases ts[i]? with
  | none => rfl
  | some t => by_cases h : k = i <;> simp [h, hf]
theorem ids_tnote (ts : List Tx) (id l n : Int) : idsT (tnote ts id l n) = idsT ts := by
  unfold tnote
  split
  · exact ids_modify _ _ _ (fun _ => rfl)
  · rfl
theorem ids_tstate (ts : List Tx) (id s : Int) : idsT (tstate ts id s) = idsT ts := by
  unfold tstate
  split
  · exact ids_modify _ _ _ (fun _ => rfl)
  · rfl
theorem thas_ids {ts : List Tx} (h : Rising (kvT ts)) (id : Int) : thas ts id = true ↔ id ∈ idsT ts := by
  rw [thas_iff h]
  unfold idsT
  rw [List.mem_map]
theorem TOk.turn {F F' : FS} (h : TOk F) (hr : Rising (kvT F'.ts)) (hm : F'.most = F.most) (ho : F'.of = F.of) (hs : F'.sess = F.sess) (hi : idsT F'.ts = idsT F.ts) : TOk F' := by
  have mem : ∀ x ∈ F'.ts, ∃ y ∈ F.ts, y.id = x.id := fun x hx => by
    have : x.id ∈ idsT F.ts := by rw [← hi]; exact List.mem_map.2 ⟨x, hx, rfl⟩
    obtain ⟨y, hy, e⟩ := List.mem_map.1 this
    exact ⟨y, hy, e⟩
  refine ⟨hr, fun x hx => ?_, by rw [hm]; exact h.most, fun s hs2 => ?_, by rw [ho]; exact h.inj, fun x hx => ?_⟩
  · obtain ⟨y, hy, e⟩ := mem x hx
    rw [← e, hm]; exact h.ids y hy
  · rw [ho] at hs2 ⊢
    rw [hs]
    obtain ⟨a, b, c⟩ := h.ofs s hs2
    exact ⟨a, b, by rw [thas_ids hr, hi, ← thas_ids h.rise]; exact c⟩
  · obtain ⟨y, hy, e⟩ := mem x hx
    rw [← e, ho]; exact h.on y hy
/-- A Commit, an Abort: a record, and how the transaction is. -/
def recMark (x : Tx) (kind : Int) : RecV := ⟨kind, x.id, 0, x.last, 0, 0, false, false, 0, 0⟩
theorem recMark_ok {x : Tx} {kind : Int} (hk : 4 ≤ kind ∧ kind ≤ 6) (h1 : 1 ≤ x.id ∧ x.id ≤ 60000) (hl : 0 ≤ x.last ∧ x.last ≤ 1073741824) : recOk (recMark x kind) = true := by
  have : kind = 4 ∨ kind = 5 ∨ kind = 6 := by omega
  unfold recOk recMark inB txnMax pageMax prevOk nextOk rkeyOk valsOk inB
  rcases this with rfl | rfl | rfl <;> simp <;> omega
def markF (F : FS) (id kind st : Int) : FS :=
  { F with S := addRec F.S (recMark (tget F.ts id) kind), ts := tstate (tnote F.ts id (F.S.l.last + 1) (tget F.ts id).next) id st, kept := F.kept - 1 }
def updk (kp : Int → Int) (id v : Int) : Int → Int := fun t => if t = id then v else kp t
theorem sum_kp {ch : Int → List Int} {kp : Int → Int} {ts : List Tx} {id v : Int} (hr : Rising (kvT ts)) (h : thas ts id = true) :
    (ts.map fun x => updk kp id v x.id + ((ch x.id).length : Int)).sum = (ts.map fun x => kp x.id + ((ch x.id).length : Int)).sum + v - kp id := by
  obtain ⟨t, h1, h2, h3⟩ := thas_at h
  have key : ∀ (k : Nat) (ts : List Tx), ts[k]? = some t → (∀ j u, ts[j]? = some u → u.id = id → j = k) → (ts.map fun x => updk kp id v x.id + ((ch x.id).length : Int)).sum = (ts.map fun x => kp x.id + ((ch x.id).length : Int)).sum + v - kp id := by
    intro k
    induction k with
    | zero =>
      intro ts hk hu
      cases ts with
      | nil => cases hk
      | cons a aa =>
        simp at hk
        subst hk
        simp only [List.map_cons, List.sum_cons]
        have : (aa.map fun x => updk kp id v x.id + ((ch x.id).length : Int)).sum = (aa.map fun x => kp x.id + ((ch x.id).length : Int)).sum := sum_congr fun x hx => by
          unfold updk
          rw [if_neg]
          intro e
          obtain ⟨j, hj, e2⟩ := List.getElem_of_mem hx
          have := hu (j + 1) x (by simp [List.getElem?_eq_getElem hj, e2]) e
          omega
        rw [this]
        unfold updk
        rw [h2, if_pos rfl]
        omega
    | succ k ih =>
      intro ts hk hu
      cases ts with
      | nil => cases hk
      | cons a aa =>
        simp only [List.map_cons, List.sum_cons]
        rw [ih aa (by simpa using hk) (fun j u hj e => by
          have := hu (j + 1) u (by simpa using hj) e
          omega)]
        have : a.id ≠ id := fun e => by
          have := hu 0 a rfl e
          omega
        unfold updk
        rw [if_neg this]
        omega
  exact key _ ts h1 (fun j u hj e => kvT_at hr hj h1 (e.trans h2.symm))
theorem sum_ids {f : Int → Int} {a b : List Tx} (h : idsT a = idsT b) : (a.map fun x => f x.id).sum = (b.map fun x => f x.id).sum := by
  have : ∀ l : List Tx, (l.map fun x => f x.id) = (idsT l).map f := fun l => by unfold idsT; rw [List.map_map]; rfl
  rw [this, this, h]
theorem mark_ok {N m : Nat} {ch : Int → List Int} {kp : Int → Int} {F : FS} {id kind st : Int} (h : FOk N m ch kp F) (hid : thas F.ts id = true) (hk : kind = 4 ∨ kind = 5) (hkp : kp id = 2) (hroom : 1 ≤ F.S.l.room) (hkept : 1 ≤ F.kept) :
    recOk (recMark (tget F.ts id) kind) = true ∧ FOk N m ch (updk kp id 1) (markF F id kind st) := by
  obtain ⟨hg, ht, hc⟩ := h
  obtain ⟨ro1, ro2, ro3⟩ := hg.room
  obtain ⟨hx, hxid⟩ := tget_mem hid
  obtain ⟨x, hxx⟩ : ∃ x, tget F.ts id = x := ⟨_, rfl⟩
  rw [hxx] at hx hxid ⊢
  obtain ⟨la, lb, lc⟩ := hc.last x hx
  have hl1 : F.S.l.last + 1 ≤ 1073741824 := by unfold Lg.room at hroom; omega
  have hl0 : 0 ≤ F.S.l.last := by have := hg.lok.base; unfold Lg.last; omega
  obtain ⟨i1, i2⟩ := ht.ids x hx
  have hm0 := ht.most
  have hrok : recOk (recMark x kind) = true := recMark_ok (by omega) ⟨i1, by omega⟩ ⟨lc, by omega⟩
  have hmark : markF F id kind st = { F with S := addRec F.S (recMark x kind), ts := tstate (tnote F.ts id (F.S.l.last + 1) x.next) id st, kept := F.kept - 1 } := by unfold markF; rw [hxx]
  rw [hmark]
  have hg2 := hg.rec_ (r := recMark x kind) (fr := F.free) (kp := F.kept - 1) hrok (by unfold is64 recMark; simp) hroom (by omega) (by omega) (by omega)
  have hold : ∀ n q, recOf F.S.l n = some q → recOf (addRec F.S (recMark x kind)).l n = some q := fun n q hq => addRec_rec hq
  have hlast := addRec_last F.S (recMark x kind)
  have hrise1 : Rising (kvT (tnote F.ts id (F.S.l.last + 1) x.next)) := tnote_rise ht.rise
  have hid1 : thas (tnote F.ts id (F.S.l.last + 1) x.next) id = true := by rw [thas_ids hrise1, ids_tnote, ← thas_ids ht.rise]; exact hid
  have hids : idsT (tstate (tnote F.ts id (F.S.l.last + 1) x.next) id st) = idsT F.ts := by rw [ids_tstate, ids_tnote]
  have hmem : ∀ y ∈ tstate (tnote F.ts id (F.S.l.last + 1) x.next) id st, (y.id = id ∧ y.last = F.S.l.last + 1 ∧ y.next = x.next) ∨ (y ∈ F.ts ∧ y.id ≠ id) := fun y hy => by
    rcases mem_tstate hrise1 hid1 hy with rfl | ⟨hy, hne⟩
    · left
      obtain ⟨hz, hzid⟩ := tget_mem hid1
      rcases mem_tnote ht.rise hid hz with e | ⟨_, e⟩
      · rw [e]; exact ⟨rfl, rfl, rfl⟩
      · exact absurd hzid e
    · rcases mem_tnote ht.rise hid hy with rfl | ⟨hy2, hne2⟩
      · exact absurd rfl hne
      · exact .inr ⟨hy2, hne2⟩
  have old_ : ∀ y ∈ F.ts, ∀ n ∈ ch y.id, ∀ q, recOf (addRec F.S (recMark x kind)).l n = some q → recOf F.S.l n = some q := fun y hy n hn q hq => by
    obtain ⟨_, q2, hq2, _⟩ := (hc.last y hy).1.at_ n hn
    rw [hold _ _ hq2] at hq
    cases hq
    exact hq2
  refine ⟨hrok, ⟨hg2.pg, hg2.fit, hg2.lok, hg2.fuse, hg2.loose, hg2.lsn, hg2.six, hg2.p32, hg2.room⟩, TOk.turn ht (tstate_rise hrise1) rfl rfl rfl hids, ⟨fun y hy => ?_, fun y hy => ?_, fun y hy j hj q hq => ?_, ?_, fun p a b l hn hl => ?_⟩⟩
  · show Chain (addRec F.S _).l y.last (ch y.id) ∧ y.last ≤ (addRec F.S _).l.last ∧ 0 ≤ y.last
    rw [hlast]
    rcases hmem y hy with ⟨e1, e2, e3⟩ | ⟨hy, hne⟩
    · rw [e1, e2, ← hxid]
      refine ⟨(la.keep hold).of_norm ?_, Int.le_refl _, by omega⟩
      exact .end_ (r := recMark x kind) (by omega) (addRec_new F.S _) hk (by show x.last < _; omega) ((la.keep hold).norm)
    · obtain ⟨a, b, d⟩ := hc.last y hy
      exact ⟨a.keep hold, by omega, d⟩
  · rcases hmem y hy with ⟨e1, e2, e3⟩ | ⟨hy, hne⟩
    · rw [e1, e3, ← hxid]; exact hc.next x hx
    · exact hc.next y hy
  · rcases hmem y hy with ⟨e1, e2, e3⟩ | ⟨hy, hne⟩
    · rw [e1, ← hxid] at hj
      have := hc.sets x hx j hj q (old_ x hx j hj q hq)
      rw [e1, ← hxid]
      exact ⟨this.txn, this.page, this.held⟩
    · have := hc.sets y hy j hj q (old_ y hy j hj q hq)
      exact ⟨this.txn, this.page, this.held⟩
  · show F.kept - 1 = ((tstate _ id st).map _).sum
    rw [sum_kp (tstate_rise hrise1) (by rw [thas_ids (tstate_rise hrise1), hids, ← thas_ids ht.rise]; exact hid), sum_ids (f := fun i => kp i + ((ch i).length : Int)) hids, hc.kept, hkp]
    omega
  · refine hc.cap p a b l hn fun j hj => ?_
    obtain ⟨a1, a2, y, hy, n, hn2, q, hq, e⟩ := hl j hj
    rcases hmem y hy with ⟨e1, e2, e3⟩ | ⟨hy, hne⟩
    · rw [e1, ← hxid] at hn2
      exact ⟨a1, a2, x, hx, n, hn2, q, old_ x hx n hn2 q hq, e⟩
    · exact ⟨a1, a2, y, hy, n, hn2, q, old_ y hy n hn2 q hq, e⟩
/-- An End: the transaction is no more; what was kept for its changes is free. -/
def endF (F : FS) (n id : Int) (let_ : Int) : FS :=
  { F with S := addRec F.S (recMark (tget F.ts id) 6), ts := tdrop F.ts id, ks := freeL F.ks n, of := upd F.of n 0, kept := F.kept - 1 - let_, free := F.free + let_ }
theorem sum_drop {g : Int → Int} {ts : List Tx} {id : Int} (h : thas ts id = true) : ((tdrop ts id).map fun x => g x.id).sum = (ts.map fun x => g x.id).sum - g id := by
  obtain ⟨t, h1, h2, h3⟩ := thas_at h
  unfold tdrop
  rw [if_pos h]
  have key : ∀ (k : Nat) (ts : List Tx), ts[k]? = some t → ((ts.eraseIdx k).map fun x => g x.id).sum = (ts.map fun x => g x.id).sum - g id := by
    intro k
    induction k with
    | zero =>
      intro ts hk
      cases ts with
      | nil => cases hk
      | cons a aa =>
        simp at hk
        subst hk
        simp [h2]
        omega
    | succ k ih =>
      intro ts hk
      cases ts with
      | nil => cases hk
      | cons a aa =>
        rw [List.eraseIdx_cons_succ]
        simp only [List.map_cons, List.sum_cons]
        rw [ih aa (by simpa using hk)]
        omega
  exact key _ ts h1
theorem end_ok {N m : Nat} {ch : Int → List Int} {kp : Int → Int} {F : FS} {id n : Int} (h : FOk N m ch kp F) (hid : thas F.ts id = true) (hof : F.of n = id) (hkp : kp id = 1) (hkpos : ∀ x, 0 ≤ kp x) :
    recOk (recMark (tget F.ts id) 6) = true ∧ 1 + ((ch id).length : Int) ≤ F.kept ∧ 1 ≤ F.S.l.room ∧ FOk N m ch kp (endF F n id ((ch id).length : Int)) := by
  obtain ⟨hg, ht, hc⟩ := h
  obtain ⟨ro1, ro2, ro3⟩ := hg.room
  obtain ⟨hx, hxid⟩ := tget_mem hid
  obtain ⟨x, hxx⟩ : ∃ x, tget F.ts id = x := ⟨_, rfl⟩
  rw [hxx] at hx hxid ⊢
  obtain ⟨la, lb, lc⟩ := hc.last x hx
  have hsum := sum_drop (g := fun i => kp i + ((ch i).length : Int)) hid
  have hpos : 0 ≤ ((tdrop F.ts id).map fun x => kp x.id + ((ch x.id).length : Int)).sum := by
    generalize tdrop F.ts id = l
    induction l with
    | nil => simp
    | cons b bs ih =>
      rw [List.map_cons, List.sum_cons]
      have := hkpos b.id
      omega
  have hkept := hc.kept
  simp only [hkp] at hsum
  have hk1 : 1 + ((ch id).length : Int) ≤ F.kept := by omega
  have hroom : 1 ≤ F.S.l.room := by omega
  have hl1 : F.S.l.last + 1 ≤ 1073741824 := by unfold Lg.room at hroom; omega
  obtain ⟨i1, i2⟩ := ht.ids x hx
  have hm0 := ht.most
  have hrok : recOk (recMark x 6) = true := recMark_ok (by omega) ⟨i1, by omega⟩ ⟨lc, by omega⟩
  have hend : endF F n id ((ch id).length : Int) = { F with S := addRec F.S (recMark x 6), ts := tdrop F.ts id, ks := freeL F.ks n, of := upd F.of n 0, kept := F.kept - 1 - ((ch id).length : Int), free := F.free + ((ch id).length : Int) } := by unfold endF; rw [hxx]
  rw [hend]
  have hg2 := hg.rec_ (r := recMark x 6) (fr := F.free + ((ch id).length : Int)) (kp := F.kept - 1 - ((ch id).length : Int)) hrok (by unfold is64 recMark; simp) hroom (by omega) (by omega) (by omega)
  have hold : ∀ n q, recOf F.S.l n = some q → recOf (addRec F.S (recMark x 6)).l n = some q := fun n q hq => addRec_rec hq
  have hlast := addRec_last F.S (recMark x 6)
  have hrise : Rising (kvT (tdrop F.ts id)) := tdrop_rise ht.rise
  have hmem : ∀ y, y ∈ tdrop F.ts id ↔ y ∈ F.ts ∧ y.id ≠ id := fun y => mem_tdrop ht.rise hid
  have hn0 : F.of n ≠ 0 := by rw [hof, ← hxid]; omega
  have old_ : ∀ y ∈ F.ts, ∀ n ∈ ch y.id, ∀ q, recOf (addRec F.S (recMark x 6)).l n = some q → recOf F.S.l n = some q := fun y hy n hn q hq => by
    obtain ⟨_, q2, hq2, _⟩ := (hc.last y hy).1.at_ n hn
    rw [hold _ _ hq2] at hq
    cases hq
    exact hq2
  refine ⟨hrok, hk1, hroom, ⟨hg2.pg, hg2.fit, hg2.lok, hg2.fuse, hg2.loose, hg2.lsn, hg2.six, hg2.p32, hg2.room⟩, ⟨hrise, fun y hy => ht.ids y ((hmem y).1 hy).1, ht.most, fun s hs => ?_, fun s t e hs => ?_, fun y hy => ?_⟩, ⟨fun y hy => ?_, fun y hy => hc.next y ((hmem y).1 hy).1, fun y hy j hj q hq => ?_, ?_, fun p a b l hn hl => ?_⟩⟩
  · have hs' : upd F.of n 0 s ≠ 0 := hs
    unfold upd at hs'
    by_cases e : s = n
    · rw [if_pos e] at hs'; exact absurd rfl hs'
    · rw [if_neg e] at hs'
      obtain ⟨a, b, c⟩ := ht.ofs s hs'
      refine ⟨a, b, ?_⟩
      show thas (tdrop F.ts id) (upd F.of n 0 s) = true
      unfold upd
      rw [if_neg e, thas_iff hrise]
      obtain ⟨y, hy, e2⟩ := (thas_iff ht.rise _).1 c
      refine ⟨y, (hmem y).2 ⟨hy, fun e3 => e ?_⟩, e2⟩
      exact ht.inj s n (by rw [← e2, e3, hof]) hs'
  · have e' : upd F.of n 0 s = upd F.of n 0 t := e
    have hs' : upd F.of n 0 s ≠ 0 := hs
    unfold upd at e' hs'
    by_cases e1 : s = n
    · rw [if_pos e1] at hs'; exact absurd rfl hs'
    · rw [if_neg e1] at e' hs'
      by_cases e2 : t = n
      · rw [if_pos e2] at e'; exact absurd e' hs'
      · rw [if_neg e2] at e'
        exact ht.inj s t e' hs'
  · obtain ⟨hy1, hy2⟩ := (hmem y).1 hy
    obtain ⟨s, hs⟩ := ht.on y hy1
    refine ⟨s, ?_⟩
    show upd F.of n 0 s = y.id
    unfold upd
    rw [if_neg, hs]
    intro e
    rw [e, hof] at hs
    exact hy2 hs.symm
  · obtain ⟨hy1, hy2⟩ := (hmem y).1 hy
    obtain ⟨a, b, d⟩ := hc.last y hy1
    show Chain (addRec F.S _).l y.last (ch y.id) ∧ y.last ≤ (addRec F.S _).l.last ∧ 0 ≤ y.last
    rw [hlast]
    exact ⟨a.keep hold, by omega, d⟩
  · obtain ⟨hy1, hy2⟩ := (hmem y).1 hy
    obtain ⟨s1, s2, lk, k1, k2, k3, k4⟩ := hc.sets y hy1 j hj q (old_ y hy1 j hj q hq)
    have hne : lk.s ≠ n := fun e => hy2 (by rw [← k4, e, hof])
    refine ⟨s1, s2, lk, ?_, k2, k3, ?_⟩
    · show lk ∈ freeL F.ks n
      unfold freeL
      rw [List.mem_filter]
      exact ⟨k1, by simp [hne]⟩
    · show upd F.of n 0 lk.s = y.id
      unfold upd
      rw [if_neg hne]; exact k4
  · show F.kept - 1 - ((ch id).length : Int) = ((tdrop F.ts id).map _).sum
    omega
  · refine hc.cap p a b l hn fun j hj => ?_
    obtain ⟨a1, a2, y, hy, n, hn2, q, hq, e⟩ := hl j hj
    obtain ⟨hy1, hy2⟩ := (hmem y).1 hy
    exact ⟨a1, a2, y, hy1, n, hn2, q, old_ y hy1 n hn2 q hq, e⟩
end Go.Proofs.YtaplpeoikebedaaGreatDoor.StoreH
