/- Joined texts: ChangeU, BackD, BackL, EndT, LockF. No condition but what each says. -/
import Derived.Test.YtaplpeoikebedaaGreatDoorV26
import Derived.Test.YtaplpeoikebedaaGreatDoorV31
import Derived.Test.YtaplpeoikebedaaGreatDoorV22
import Derived.Test.YtaplpeoikebedaaGreatDoorV28
import Derived.Test.YtaplpeoikebedaaGreatDoorV25
import Derived.Test.YtaplpeoikebedaaGreatDoorV12
set_option maxHeartbeats 8000000
set_option maxRecDepth 100000
set_option linter.unusedVariables false
set_option linter.unusedSimpArgs false
namespace Go.Proofs.YtaplpeoikebedaaGreatDoor.ChangeU
open Go.RowKit YtaplpeoikebedaaGreatDoorW.PrintWords YtaplpeoikebedaaGreatDoorW.PrintLast YtaplpeoikebedaaGreatDoorW.PrintMore
open See Mem Page RecD Rec Wal WalR StoreD
attribute [local go_sem] max2_imax min2_imin max_two min_two
theorem undo_calls (r : RecV) (lsn last next : Int) (w : World) (hk : r.kind = 2) :
    Calls Tryz.prog 197 #[recV r, .int .i64 lsn, .int .i64 last, .int .i64 next] w fun e w' => e = .returned (.tuple #[recV ⟨3, r.txn, r.page, last, next, r.key, true, r.had, lsn, r.old⟩, .bool true]) ∧ Below w.heap.size w w' := by
  obtain ⟨kd, tx, pg, pv, nx, key, had, has_, old, new⟩ := r
  simp only at hk
  subst hk
  simp only [recV, recA]
  go_enter Tryz.func197, Tryz.ntmps197
  go_wp2_with fail
  refine bodyPost_ret (v := .tuple #[recV ⟨3, tx, pg, last, next, key, true, had, lsn, old⟩, .bool true]) ?_ ?_ ?_
  case refine_2 => rfl
  case refine_3 => exact ⟨rfl, by repeat (first | exact Below.refl _ _ | apply below_drew1 | apply below_alloc)⟩
  simp [results, Tryz.results197, go_sem, recV, recA]
end Go.Proofs.YtaplpeoikebedaaGreatDoor.ChangeU
namespace Go.Proofs.YtaplpeoikebedaaGreatDoor.BackD
open Go.RowKit Go.Maps YtaplpeoikebedaaGreatDoorW.PrintWords YtaplpeoikebedaaGreatDoorW.PrintLast YtaplpeoikebedaaGreatDoorW.PrintMore
open See Mem Page Disk DiskN DiskW RecD Rec Dirty Wal WalF WalR PoolG PoolS SysD SysM FlushG Pager StoreD PageM StoreF StoreG StoreH StoreI StoreJ TransT LockT LockU SpaceT WaitT ChainT ChangeT ChangeU FwdM FwdP FwdC FwdT FwdB FwdS
attribute [local go_sem] max2_imax min2_imin max_two min_two
def backF (F : FS) (id k nx : Int) (r : RecV) (hint : Int) : FS := undoF { F with S := (getS F.S r.page hint).1 } id k nx r
structure BackIn (F : FS) (id k nx : Int) (r : RecV) (hint : Int) (S' : PSys) : Prop where
  get : getS F.S r.page hint = (S', cur F.S r.page, .fine)
  n0 : Norm F.S.l (tget F.ts id).next k
  rec_ : recOf F.S.l k = some r
  n1 : Norm S'.l r.prev nx
  kind : r.kind = 2
  rise : Rising (cur F.S r.page).2
  lsn : (cur F.S r.page).1 < S'.l.last + 1
  rok : recOk (recClr (tget F.ts id) r k nx) = true
  room : r.had = true → has (cur F.S r.page).2 r.key = true ∨ (cur F.S r.page).2.length < 20
  r1 : 1 ≤ S'.l.room
  kept : 1 ≤ F.kept ∧ F.kept ≤ 1073741824
  few : S'.t.length ≤ 70000
  has_ : thas F.ts id = true
  ris2 : Rising (kvT F.ts)
  id_ : (tget F.ts id).id = id
  lse : LooseLe F.S.d 40000
  set_ : setS (addRec S' (recClr (tget F.ts id) r k nx)) r.page (S'.l.last + 1) (redoE (cur F.S r.page).2 (recClr (tget F.ts id) r k nx)) = ((backF F id k nx r hint).S, none)
  last : S'.l.last + 1 ≤ 1073741824 ∧ 0 ≤ S'.l.last
theorem back_in {N m : Nat} {ch : Int → List Int} {kp : Int → Int} {F : FS} {id k : Int} {ks : List Int} {r : RecV} (hint : Int) (h : FOk N m ch kp F) (hid : thas F.ts id = true) (hch : ch id = k :: ks) (hrk : recOf F.S.l k = some r) (hkp : ∀ x, 0 ≤ kp x) (hm : m ≤ 39000) (hfr : F.S.frames ≤ 8) :
    ∃ S', BackIn F id k (ks.headD 0) r hint S' ∧ FOk N (m + 1) (updc ch id ks) kp (backF F id k (ks.headD 0) r hint) ∧ ∀ j, vals (backF F id k (ks.headD 0) r hint) j = if j = r.key then (if r.had then some r.old else none) else vals F j := by
  obtain ⟨hx, hxid⟩ := tget_mem hid
  obtain ⟨la, lb, lc⟩ := h.c.last _ hx
  have hnx := h.c.next _ hx
  rw [hxid, hch] at la hnx
  have hkn := la.at_ k List.mem_cons_self
  have hrk2 : r.kind = 2 := by
    obtain ⟨_, q, hq, hq2⟩ := hkn
    rw [hrk] at hq
    cases hq
    exact hq2
  obtain ⟨st, sp, sh⟩ := h.c.sets _ hx k (by rw [hxid, hch]; exact List.mem_cons_self) r hrk
  obtain ⟨p1, p2⟩ := placeOf_in r.key h.g.pg.pages
  rw [← sp] at p1 p2
  obtain ⟨S', e1, e2, e3, e4⟩ := get_ok h hint p1 p2
  have hcur := e3.cur _ p1 p2
  obtain ⟨l1, l2, l3, l4, l5⟩ := e3.ll
  obtain ⟨r1, r2⟩ := room_done (L := F.S.l) (L' := S'.l) ⟨l2, l3, l1⟩
  have hrec : ∀ n, recOf S'.l n = recOf F.S.l n := fun n => recOf_done l2 l1 n
  have hu := undo_ok (F := { F with S := S' }) (f := ⟨r.page, (cur F.S r.page).1, (cur F.S r.page).2⟩) e2 hid hch (by show recOf S'.l k = _; rw [hrec]; exact hrk) e4 hkp
  have hc1 : cur ({ F with S := S' } : FS).S r.page = cur F.S r.page := hcur
  rw [hc1] at hu
  obtain ⟨u1, u2, u3, u4, u5, u6, u7⟩ := hu
  have hb : backF F id k (ks.headD 0) r hint = undoF { F with S := S' } id k (ks.headD 0) r := by unfold backF; rw [e1]
  have hrise : Rising (cur F.S r.page).2 := PageV.rise (h.g.pg.curV p1 p2)
  have hro := h.g.room
  have hroomB : F.S.l.room ≤ 1073741824 := by unfold Lg.room; have := h.g.lok.base; unfold Lg.last; omega
  have hrest : Chain F.S.l r.prev ks := by
    cases la with
    | cons h0 h1 h2 h3 h4 =>
      rw [hrk] at h2
      cases h2
      exact h4
  have hl := e2.g.lok
  refine ⟨S', ⟨e1, ?_, hrk, (hrest.norm).keep fun m q hq => by rw [hrec]; exact hq, hrk2, hrise, ?_, u2, fun hh => ?_, u4, ⟨u5, by omega⟩, ?_, hid, h.t.rise, hxid, h.g.loose.mono (by omega), by rw [hb]; exact u1, ?_⟩, by rw [hb]; exact u6, fun j => ?_⟩
  · rw [hnx]; exact la.norm.head
  · have := h.g.lsn _ p1 p2
    rw [r2]; omega
  · have h3 := u3
    unfold redoE at h3
    rw [show (recClr (tget ({ F with S := S' } : FS).ts id) r k (ks.headD 0)).has = r.had from rfl, if_pos hh, len_put hrise, show (recClr (tget ({ F with S := S' } : FS).ts id) r k (ks.headD 0)).key = r.key from rfl, ← has_val hrise] at h3
    cases hq : has (cur F.S r.page).2 r.key with
    | true => exact .inl rfl
    | false =>
      rw [hq] at h3
      simp at h3
      exact .inr (by omega)
  · have h1 := tab_few e2.g.pg
    have h2 : S'.frames = F.S.frames := e3.frames
    have h3 : ({ F with S := S' } : FS).S.t.length = S'.t.length := rfl
    have h4 : ({ F with S := S' } : FS).S.frames = S'.frames := rfl
    omega
  · have h0 : 1 ≤ S'.l.room := u4
    unfold Lg.room at h0
    have h2 := hl.base
    have h3 : 0 ≤ S'.l.base := h2.1
    refine ⟨by omega, ?_⟩
    unfold Lg.last
    omega
  · rw [hb, u7 j]
    split
    · rfl
    · exact vals_to h.g.pg.pages e3 j
theorem backF_eq {F : FS} {id k nx hint : Int} {r : RecV} {S' : PSys} {c : Int × List (Int × Int)} {q : Flt} (h : getS F.S r.page hint = (S', c, q)) : backF F id k nx r hint = { F with S := (backF F id k nx r hint).S, kept := F.kept - 1, ts := tnote F.ts id (S'.l.last + 1) nx } := by
  unfold backF undoF
  rw [h]
theorem drewH (V : World) : V.drew.heap = V.heap := rfl
theorem allocH (V : World) (o : Obj) : (V.alloc o).heap = V.heap.push o := rfl
theorem LB.fin {M : Nat → Prop} {sp lp pp dp qp mp : Nat} {blocks frames : Int} {F F' : FS} {w V0 w3 w4 w5 : World} {R : Nat → Prop} (h : LB M sp lp pp dp qp mp blocks frames F w V0 R w3) (hb : Below w3.heap.size w3 w4) (hp : FwPost (Cut R w3.heap.size) sp lp pp dp qp mp blocks frames F' w4 w5) : FwPost M sp lp pp dp qp mp blocks frames F' w w5 :=
  (h.step ((hp.wide (fun k hk => hk.1)).back hb)).post
end Go.Proofs.YtaplpeoikebedaaGreatDoor.BackD
namespace Go.Proofs.YtaplpeoikebedaaGreatDoor.BackL
open Go.RowKit See Mem RecD Dirty Wal WalF PoolG PoolS SysD SysM FlushG Pager StoreD PageM StoreF StoreG StoreH StoreI StoreJ BackD
def undoV (L : Lg) (k : Int) (f : Int → Option Int) : Int → Option Int :=
  match recOf L k with
  | some r => fun j => if j = r.key then (if r.had then some r.old else none) else f j
  | none => f
def rewV (L : Lg) : List Int → (Int → Option Int) → Int → Option Int
  | [], f => f
  | k :: ks, f => rewV L ks (undoV L k f)
theorem rewV_append (L : Lg) : ∀ (p q : List Int) (f : Int → Option Int), rewV L (p ++ q) f = rewV L q (rewV L p f)
  | [], _, _ => rfl
  | k :: p, q, f => rewV_append L p q (undoV L k f)
theorem rewV_keep {L L' : Lg} (hk : ∀ m r, recOf L m = some r → recOf L' m = some r) : ∀ (p : List Int) (f : Int → Option Int), (∀ k ∈ p, ∃ r, recOf L k = some r) → rewV L' p f = rewV L p f
  | [], _, _ => rfl
  | k :: p, f, h => by
    obtain ⟨r, hr⟩ := h k List.mem_cons_self
    have e : undoV L' k f = undoV L k f := by unfold undoV; rw [hr, hk k r hr]
    show rewV L' p (undoV L' k f) = rewV L p (undoV L k f)
    rw [e]
    exact rewV_keep hk p _ fun j hj => h j (List.mem_cons_of_mem _ hj)
theorem setS_l (S : PSys) (n lsn : Int) (es : List (Int × Int)) : (setS S n lsn es).1.l = S.l ∧ (setS S n lsn es).1.frames = S.frames := by
  unfold setS
  split
  · exact ⟨rfl, rfl⟩
  · split <;> exact ⟨rfl, rfl⟩
theorem chg_l (S : PSys) (r : RecV) : (chgS S r).l = (addRec S r).l ∧ (chgS S r).frames = S.frames := setS_l _ _ _ _
theorem set_rew {F : FS} {id key : Int} {had : Bool} {old : Int} {has : Bool} {new : Int} (ho : had = (vals F key).isSome) (h2 : (if had then some old else none) = vals F key) (hv : ∀ k, k ≠ key → vals (setF F id key had old has new) k = vals F k) :
    undoV (setF F id key had old has new).S.l (F.S.l.last + 1) (vals (setF F id key had old has new)) = vals F := by
  have hl : (setF F id key had old has new).S.l = (addRec F.S (recSet (tget F.ts id) F.P key had old has new)).l := (chg_l _ _).1
  unfold undoV
  rw [hl, addRec_new]
  funext j
  show (if j = key then (if had then some old else none) else vals _ j) = _
  by_cases e : j = key
  · rw [if_pos e, h2, e]
  · rw [if_neg e, hv j e]
theorem Norm.le {L : Lg} {n k : Int} (h : Norm L n k) : k = 0 ∨ k ≤ n := by
  induction h with
  | zero => exact .inl rfl
  | set => exact .inr (Int.le_refl _)
  | begin => exact .inl rfl
  | clr _ _ _ h3 _ ih => exact ih.elim .inl fun h => .inr (by omega)
  | end_ _ _ _ h3 _ ih => exact ih.elim .inl fun h => .inr (by omega)
theorem Chain.le {L : Lg} {n : Int} {ks : List Int} (h : Chain L n ks) : ∀ k ∈ ks, k ≤ n := by
  induction h with
  | nil => intro k hk; cases hk
  | cons h0 h1 h2 h3 _ ih =>
    have hn := (Norm.le h0).resolve_left h1
    intro j hj
    rcases List.mem_cons.1 hj with rfl | hj
    · exact hn
    · have := ih j hj; omega
theorem Chain.down {L : Lg} {n : Int} {ks : List Int} (h : Chain L n ks) : ks.Pairwise (fun a b => b < a) := by
  induction h with
  | nil => exact List.Pairwise.nil
  | cons h0 h1 h2 h3 h4 ih =>
    refine List.pairwise_cons.2 ⟨fun j hj => ?_, ih⟩
    have := Chain.le h4 j hj
    omega
theorem Chain.stop {L : Lg} {n : Int} {p q : List Int} (h : Chain L n (p ++ q)) : ∀ k ∈ p, k ≠ q.headD 0 ∧ k ≠ 0 := by
  intro k hk
  have h0 := (h.at_ k (List.mem_append_left _ hk)).1
  refine ⟨?_, h0⟩
  cases q with
  | nil => exact h0
  | cons j q =>
    have := (List.pairwise_append.1 (Chain.down h)).2.2 k hk j List.mem_cons_self
    show k ≠ j
    omega
structure UndoR (N m : Nat) (ch : Int → List Int) (kp : Int → Int) (F : FS) (id : Int) (pre rest : List Int) (F' : FS) : Prop where
  ok : FOk N (m + pre.length) (updc ch id rest) kp F'
  vals_ : ∀ j, vals F' j = rewV F.S.l pre (vals F) j
  last : F'.S.l.last = F.S.l.last + (pre.length : Int)
  old : ∀ n r, recOf F.S.l n = some r → recOf F'.S.l n = some r
  same : F'.P = F.P ∧ F'.sess = F.sess ∧ F'.ks = F.ks ∧ F'.most = F.most ∧ F'.of = F.of ∧ F'.free = F.free ∧ F'.S.frames = F.S.frames
  has_ : thas F'.ts id = true
  ids : idsT F'.ts = idsT F.ts
theorem UndoR.refl {N m : Nat} {ch : Int → List Int} {kp : Int → Int} {F : FS} {id : Int} (h : FOk N m ch kp F) (hid : thas F.ts id = true) : UndoR N m ch kp F id [] (ch id) F := by
  refine ⟨?_, fun j => rfl, by simp, fun n r h => h, ⟨rfl, rfl, rfl, rfl, rfl, rfl, rfl⟩, hid, rfl⟩
  have e : updc ch id (ch id) = ch := by funext t; unfold updc; split <;> simp_all
  rw [e]; exact h
theorem UndoR.step {N m : Nat} {ch : Int → List Int} {kp : Int → Int} {F F' : FS} {id k : Int} {pre ks : List Int} (hint : Int) (h : UndoR N m ch kp F id pre (k :: ks) F') (hk : ∃ r, recOf F.S.l k = some r) (hkp : ∀ x, 0 ≤ kp x) (hm : m + pre.length ≤ 39000) (hfr : F.S.frames ≤ 8) :
    ∃ S' r, BackIn F' id k (ks.headD 0) r hint S' ∧ UndoR N m ch kp F id (pre ++ [k]) ks (backF F' id k (ks.headD 0) r hint) := by
  obtain ⟨r, hr⟩ := hk
  have hch : updc ch id (k :: ks) id = k :: ks := by unfold updc; rw [if_pos rfl]
  obtain ⟨s1, s2, s3, s4, s5, s6, s7⟩ := h.same
  obtain ⟨S', b1, b2, b3⟩ := back_in hint h.ok h.has_ hch (h.old k r hr) hkp hm (by rw [s7]; exact hfr)
  have e1 : updc (updc ch id (k :: ks)) id ks = updc ch id ks := by funext t; unfold updc; split <;> rfl
  rw [e1] at b2
  obtain ⟨p1, p2⟩ := placeOf_in r.key h.ok.g.pg.pages
  obtain ⟨hx, hxid⟩ := tget_mem h.has_
  have hsp := (h.ok.c.sets _ hx k (by rw [hxid, hch]; exact List.mem_cons_self) r (h.old k r hr)).page
  rw [← hsp] at p1 p2
  obtain ⟨S2, e2, e3, e4, e5⟩ := get_ok h.ok hint p1 p2
  obtain ⟨l1, l2, l3, l4, l5⟩ := e4.ll
  have hS : backF F' id k (ks.headD 0) r hint = undoF { F' with S := S2 } id k (ks.headD 0) r := by unfold backF; rw [e2]
  have hfr2 : S2.frames = F'.S.frames := e4.frames
  have hro := room_done (L := F'.S.l) (L' := S2.l) ⟨l2, l3, l1⟩
  have hL := chg_l S2 (recClr (tget ({ F' with S := S2 } : FS).ts id) r k (ks.headD 0))
  have hB : (backF F' id k (ks.headD 0) r hint).S.l = (addRec S2 (recClr (tget ({ F' with S := S2 } : FS).ts id) r k (ks.headD 0))).l := by rw [hS]; exact hL.1
  refine ⟨S', r, b1, ⟨?_, fun j => ?_, ?_, fun n q hq => ?_, ?_, ?_, ?_⟩⟩
  · have : m + (pre ++ [k]).length = m + pre.length + 1 := by simp; omega
    rw [this]; exact b2
  · rw [b3 j, rewV_append]
    show _ = undoV F.S.l k (rewV F.S.l pre (vals F)) j
    unfold undoV
    rw [hr]
    simp only [h.vals_ j]
  · rw [hB, addRec_last, hro.2, h.last]
    simp
    omega
  · rw [hB]
    refine addRec_rec ?_
    rw [recOf_done l2 l1]
    exact h.old n q hq
  · rw [hS]
    exact ⟨s1, s2, s3, s4, s5, s6, by rw [← s7, ← hfr2]; exact hL.2⟩
  · rw [hS]
    show thas (tnote F'.ts id _ _) id = true
    rw [thas_ids (tnote_rise h.ok.t.rise), ids_tnote, ← thas_ids h.ok.t.rise]
    exact h.has_
  · rw [hS]
    show idsT (tnote F'.ts id _ _) = _
    rw [ids_tnote]
    exact h.ids
end Go.Proofs.YtaplpeoikebedaaGreatDoor.BackL
namespace Go.Proofs.YtaplpeoikebedaaGreatDoor.EndT
open Go.RowKit Go.Maps YtaplpeoikebedaaGreatDoorW.PrintWords YtaplpeoikebedaaGreatDoorW.PrintLast YtaplpeoikebedaaGreatDoorW.PrintMore
open See Mem Page Disk DiskN DiskW RecD Rec Dirty Wal WalF SysD SysM FlushG Pager StoreD PageM StoreF StoreG StoreH StoreI StoreJ TransT LockT LockU SpaceT WaitT FwdM FwdP FwdC FwdT FwdB FwdS
attribute [local go_sem] max2_imax min2_imin max_two min_two
def addK (F : FS) (r : RecV) : FS := { F with S := addRec F.S r, kept := F.kept - 1 }
theorem end_calls (a : Nat → Addr) (M : Nat → Prop) (sp lp pp dp qp mp : Nat) (blocks frames : Int) (F : FS) (id : Int) (w : World) (h : FwM M w sp lp pp dp qp mp blocks frames F) (hs : SentsAll w a) (hO : OutAll M a) (hid : thas F.ts id = true) (hr : Rising (kvT F.ts)) (htid : (tget F.ts id).id = id) (hk : 1 ≤ F.kept ∧ F.kept ≤ 1073741824) (hrec : recOk (recMark (tget F.ts id) 6) = true) (hroom : 1 ≤ F.S.l.room) :
    Calls Tryz.prog 136 #[.pointer (some ⟨lp, 0, none⟩), .pointer (some ⟨sp, 8, none⟩), .pointer (some ⟨qp, 0, none⟩), txV (tget F.ts id)] w fun e w' => e = .returned .nilIface ∧ FwPost M sp lp pp dp qp mp blocks frames { addK F (recMark (tget F.ts id) 6) with ts := tdrop F.ts id } w w' := by
  have HF := Aside0.mk h
  have HS := Aside0.mk hs
  have HO := Aside0.mk hO
  have HID := Aside0.mk (And.intro hid hr)
  have HKB := Aside0.mk hk
  have HREC := Aside0.mk (append_room hrec hroom)
  have hd1 : decide (F.kept < 1) = false := decide_eq_false (by omega)
  obtain ⟨x, hxx⟩ : ∃ x, tget F.ts id = x := ⟨_, rfl⟩
  rw [hxx] at HREC htid ⊢
  obtain ⟨xi, xs, xl, xn⟩ := x
  simp only at htid
  subst htid
  simp only [txV]
  clear h hs hO hid hr hk hrec hroom hxx
  go_enter Tryz.func136, Tryz.ntmps136
  go_upto_region 1 with fail
  obtain ⟨W, hW⟩ : ∃ W, w.alloc (.cells #[.int .i64 xi, .int .i64 xs, .int .i64 xl, .int .i64 xn] 102) = W := ⟨_, rfl⟩
  have HXB := Aside0.mk (show W.heap[w.heap.size]? = some (.cells #[.int .i64 xi, .int .i64 xs, .int .i64 xl, .int .i64 xn] 102 (0, 0)) by rw [← hW]; exact heap_alloc_new _ _)
  have HL0 := Aside0.mk (LB.start HF.out (show Below w.heap.size w W by rw [← hW]; exact below_alloc (Below.refl _ _) _))
  rw [hW]
  clear hW
  obtain ⟨x0, x1, x2, x3, _, _, _, _⟩ := tx_cells HXB.out
  have hxl := heap_lt HXB.out
  go_wp2_with fail
  refine (kept_space qp F.free F.kept _ HL0.out.f.room).mono ?_
  rintro e w' ⟨rfl, rfl⟩
  obtain ⟨lv, hlg⟩ := HL0.out.f.sys.log
  have HLG := Aside0.mk hlg
  have HSS := Aside0.mk (HL0.out.sents HS.out HO.out)
  clear hlg
  go_wp2_with fail
  refine (append_log a _ lp dp lv F.S.l (recMark ⟨xi, xs, xl, xn⟩ 6) _ (HSS.out.1.k _ (by decide)) HLG.out).mono ?_
  rintro e w3 ⟨rfl, v3, hl3, hf3⟩
  rw [HREC.out.2.2] at hl3
  rw [HREC.out.1, HREC.out.2.1, show errv a none = .nilIface from rfl]
  have HL1 := Aside0.mk (HL0.out.step (FwM.lg HL0.out.f ⟨v3, hl3⟩ hf3))
  clear hl3 hf3 x0 x1 x2 x3 hxl
  go_wp2_with fail
  refine (spend_space _ qp F.free F.kept 1 _ HL1.out.f.room HL1.out.f.low.2.1 (by omega) HKB.out.1 HKB.out.2).mono ?_
  rintro e w4 ⟨rfl, hs4, hf4⟩
  have HL2 := Aside0.mk (HL1.out.step (FwM.spc HL1.out.f hs4 hf4))
  clear hs4 hf4
  obtain ⟨cs, tv, htx, hput⟩ := FwM.txs HL2.out.f HID.out.2
  have HTX := Aside0.mk htx
  have HPT := Aside0.mk hput
  clear htx hput
  obtain ⟨x0, x1, x2, x3, _, _, _, _⟩ := tx_cells (HL2.out.at HXB.out (Nat.le_refl _))
  go_wp2_with fail
  refine (tdrop_calls _ sp 8 118 cs tv F.ts F.most xi _ HTX.out HID.out.1).mono ?_
  rintro e w5 ⟨rfl, hpost⟩
  have HL3 := Aside0.mk (HL2.out.step (HPT.out _ _ _ (Int.le_refl _) hpost))
  clear hpost x0 x1 x2 x3
  go_wp2_with fail
  go_ret
  exact ⟨rfl, HL3.out.post⟩
theorem fappend_calls (a : Nat → Addr) (M : Nat → Prop) (sp lp pp dp qp mp : Nat) (blocks frames : Int) (F : FS) (r : RecV) (w : World) (h : FwM M w sp lp pp dp qp mp blocks frames F) (hs : SentsAll w a) (hO : OutAll M a) (hk : 1 ≤ F.kept ∧ F.kept ≤ 1073741824) (hrec : recOk r = true) (hroom : 1 ≤ F.S.l.room) :
    Calls Tryz.prog 74 #[.pointer (some ⟨sp, 0, none⟩), recV r] w fun e w' => e = .returned (.tuple #[.int .i64 (F.S.l.last + 1), .nilIface]) ∧ FwPost M sp lp pp dp qp mp blocks frames (addK F r) w w' := by
  have HF := Aside0.mk h
  have HS := Aside0.mk hs
  have HO := Aside0.mk hO
  have HKB := Aside0.mk hk
  have HREC := Aside0.mk (append_room hrec hroom)
  have hspl : sp < w.heap.size := by obtain ⟨kv, tv, b1, _⟩ := h.box; exact heap_lt b1
  obtain ⟨W, hW⟩ : ∃ W, w.alloc (.cells (recA r) 46) = W := ⟨_, rfl⟩
  have HRB := Aside0.mk (show W.heap[w.heap.size]? = some (.cells (recA r) 46 (0, 0)) by rw [← hW]; exact heap_alloc_new _ _)
  have HL0 := Aside0.mk (LB.start HF.out (show Below w.heap.size w W by rw [← hW]; exact below_alloc (Below.refl _ _) _))
  have HAP := Aside0.mk (show ∀ (V : World), Below W.heap.size W V → Calls Tryz.prog 63 #[.pointer (some ⟨lp, 0, none⟩), recV r] V (fun e w' => e = .returned (.tuple #[.int .i64 (F.S.l.last + 1), .nilIface]) ∧ ∃ R, LB M sp lp pp dp qp mp blocks frames { F with S := addRec F.S r } w W R w') from fun V hbl => by
    have hl := HL0.out.below hbl
    obtain ⟨hs1, hs2⟩ := hl.sents HS.out HO.out
    obtain ⟨lv, hlg⟩ := hl.f.sys.log
    have := append_log a _ lp dp lv F.S.l r V (hs1.k _ (by decide)) hlg
    exact this.mono fun e w' hh => by
      obtain ⟨rfl, v3, hl3, hf3⟩ := hh
      rw [HREC.out.2.2] at hl3
      rw [HREC.out.1, HREC.out.2.1, show errv a none = .nilIface from rfl]
      exact ⟨rfl, _, hl.step (FwM.lg hl.f ⟨v3, hl3⟩ hf3)⟩)
  have j4 := HL0.out.f.cells.2.2.1
  obtain ⟨y0, y1, y2, y3, y4, y5, y6, y7, y8, y9⟩ := ChangeT.rec_cells HRB.out
  have hlW := heap_lt HRB.out
  have HWE := Aside0.mk hW
  clear h hs hO hk hrec hroom hW
  obtain ⟨r0, r1, r2, r3, r4, r5, r6, r7, r8, r9⟩ := r
  simp only [recV, recA] at *
  go_enter Tryz.func74, Tryz.ntmps74
  go_upto_region 1 with fail
  rw [HWE.out]
  go_cut [6, 7] (fun v6 v7 wx => v6 = .int .i64 (F.S.l.last + 1) ∧ v7 = .nilIface ∧ ∃ R, Aside0 (LB M sp lp pp dp qp mp blocks frames { F with S := addRec F.S ⟨r0, r1, r2, r3, r4, r5, r6, r7, r8, r9⟩ } w W R wx))
  case first =>
    go_region_law (first
      | (go_simp; go_at_call 63; refine (HAP.out _ (by repeat (first | exact Below.refl _ _ | apply below_drew1))).mono ?_; rintro e w4 ⟨rfl, R4, hl4⟩; have HL4 := Aside0.mk hl4; clear hl4))
    all_goals
      go_wp2_with fail
      go_meet
      exact ⟨rfl, rfl, R4, HL4⟩
  case rest =>
    obtain ⟨rfl, rfl, R4, HL4⟩ := hcut
    generalize wc = V1 at HL4 ⊢
    clear j4 y0 y1 y2 y3 y4 y5 y6 y7 y8 y9
    have j10 := HL4.out.f.cells.2.2.2.2.2.2.1
    go_wp2_with fail
    refine (spend_space _ qp F.free F.kept 1 _ HL4.out.f.room HL4.out.f.low.2.1 (by omega) HKB.out.1 HKB.out.2).mono ?_
    rintro e w4 ⟨rfl, hs4, hf4⟩
    have HL5 := Aside0.mk (HL4.out.step (FwM.spc HL4.out.f hs4 hf4))
    clear hs4 hf4 j10
    go_wp2_with fail
    exact bodyPost_ret (v := .tuple #[.int .i64 (F.S.l.last + 1), .nilIface]) (by simp [results, Tryz.results74, go_sem]) rfl ⟨rfl, HL5.out.post⟩
end Go.Proofs.YtaplpeoikebedaaGreatDoor.EndT
namespace Go.Proofs.YtaplpeoikebedaaGreatDoor.LockF
open Go.RowKit YtaplpeoikebedaaGreatDoorW.PrintWords YtaplpeoikebedaaGreatDoorW.PrintLast YtaplpeoikebedaaGreatDoorW.PrintMore
open See Mem Clone Go.Proofs.YtaplpeoikebedaaGreatDoor.Cell Page PageR Disk DiskN Pool1 Pool2 Rw Del Num SortI StoreD TransT LockT LockU
attribute [local go_sem] max2_imax min2_imin max_two min_two
theorem cell1 {w : World} {b t : Nat} {v : Value} {fz : Nat × Nat} (h : w.heap[b]? = some (.cells #[v] t fz)) : w.cell? ⟨b, 0, none⟩ = some v := by simp [World.cell?, h]
theorem lkzero (w : World) : (zeroValue 265).run Tryz.prog w = .ok (.agg #[.int .i64 0, .int .i64 0, .int .i64 0]) w := by kernel_rfl
theorem zeros_lk (n : Nat) : (Builtin.zeroCells (Value.agg #[.int .i64 0, .int .i64 0, .int .i64 0]).cells n).toList = List.replicate (n * 3) (.int .i64 0) := by
  have hc : (Value.agg #[.int .i64 0, .int .i64 0, .int .i64 0]).cells = #[.int .i64 0, .int .i64 0, .int .i64 0] := rfl
  rw [hc]
  unfold Builtin.zeroCells
  apply List.ext_getElem
  · simp
  · intro i h1 h2
    simp at h1 h2 ⊢
    have h3 : i % 3 = 0 ∨ i % 3 = 1 ∨ i % 3 = 2 := by omega
    rcases h3 with h3 | h3 | h3 <;> simp [h3]
theorem clear_lk (w : World) (ty : TypeId) (b n c : Nat) (hn : 0 < n) (hc : ∀ j, j < n * 3 → (w.cell? ⟨b, j, none⟩).isSome = true) (hf : ∀ j, w.frozen? ⟨b, j, none⟩ = false) :
    (Builtin.clear_ #[107] ty #[.slice (some ⟨b, 0, none⟩) n c]).run Tryz.prog w = .ok (.tuple #[]) (w.setCells b 0 (List.replicate (n * 3) (.int .i64 0))) := by
  have hst := run_storeCells_cells (P := Tryz.prog) b 0 (List.replicate (n * 3) (.int .i64 0)) 0 w (by simpa using hc) (fun j hj => hf _) (fun u hu => by rw [List.eq_of_mem_replicate hu]; rfl)
  simp only [Nat.add_zero] at hst
  obtain ⟨m, rfl⟩ : ∃ m, n = m + 1 := ⟨n - 1, by omega⟩
  simp [Builtin.clear_, run_underlying Tryz.underlying107, lkzero, zeros_lk, hst]
theorem clos_free (b1 : Nat) (s s1 k1 m1 : Int) (w : World) (h1 : w.cell? ⟨b1, 0, none⟩ = some (.int .i64 s)) :
    Calls Tryz.prog 194 #[.agg #[.int .i64 s1, .int .i64 k1, .int .i64 m1], .pointer (some ⟨b1, 0, none⟩)] w fun e w' => e = .returned (.bool (s1 == s)) ∧ Below w.heap.size w w' := by
  have hlt1 : b1 < w.heap.size := World.block_lt_of_cell? _ _ h1
  go_enter Tryz.func194, Tryz.ntmps194
  go_wp2_with fail
  go_ret
  exact ⟨rfl, by repeat (first | exact Below.refl _ _ | apply pw_below_drewN | apply below_drew1 | apply below_alloc)⟩
theorem index_free (v : Value) (fs : List Lk) (b1 : Nat) (s : Int) (w : World) (hf : LR w v fs) (h1 : w.cell? ⟨b1, 0, none⟩ = some (.int .i64 s)) (ha : ∀ h ∈ fs, h.s = s) :
    Calls Tryz.prog 175 #[v, .func (.func 194) #[] #[.pointer (some ⟨b1, 0, none⟩)]] w fun e w' => e = .returned (.int .i64 (if fs.length = 0 then -1 else 0)) ∧ Below w.heap.size w w' := by
  obtain ⟨A, cap, rfl, _⟩ := ow_slice hf.1
  obtain ⟨l, hl⟩ : ∃ l, fs.length = l := ⟨_, rfl⟩
  have HL := Aside0.mk hl
  have HF := Aside0.mk hf
  have HC1 := Aside0.mk h1
  have HA := Aside0.mk ha
  have hl8 : l ≤ 100000 := by rw [← hl]; exact hf.2
  rw [hl]
  clear hf h1 hl ha
  go_enter Tryz.func175, Tryz.ntmps175
  go_wp2_with fail
  go_loopg [8] 1 (fun kq v8 w' => v8 = .int .i64 0 ∧ w' = w)
  case atStart => exact ⟨rfl, rfl⟩
  case round =>
    obtain ⟨rfl, rfl⟩ := hrel
    by_cases hlt : 0 < l
    · obtain ⟨f, hf⟩ : ∃ f, fs[(0 : Int).toNat]? = some f := ⟨_, List.getElem?_eq_getElem (by have := HL.out; simp; omega)⟩
      obtain ⟨g, rfl, hll, hd0, hd1, hd2⟩ := HF.out.at hf
      have hfs := HA.out f (List.mem_of_getElem? hf)
      obtain ⟨fs1, fk, fm⟩ := f
      simp at hd0 hd1 hd2 hfs
      subst hfs
      have hi0 : (0 : Int) < l := by omega
      have HI := Aside0.mk (show (if l = 0 then (-1 : Int) else 0) = 0 by rw [if_neg (by omega)])
      clear hf hll
      go_wp2_with fail
      refine (clos_free b1 fs1 fs1 fk fm _ HC1.out).mono ?_
      rintro e w1 ⟨rfl, hb⟩
      have HB := Aside0.mk hb
      clear hb
      rw [show (fs1 == fs1) = true from by simp]
      go_wp2_with fail
      refine bodyPost_ret (v := .int .i64 0) (by simp [results, Tryz.results175, go_sem]) rfl ⟨by first | rfl | (rw [HI.out]), HB.out⟩
    · have hl0 : l = 0 := by omega
      have HI := Aside0.mk (show (if l = 0 then (-1 : Int) else 0) = -1 by rw [if_pos hl0])
      subst hl0
      go_wp2_with fail
      go_ret
      exact ⟨rfl, Below.refl _ _⟩
theorem del_all (v : Value) (fs : List Lk) (b1 : Nat) (s : Int) (w : World) (hf : LR w v fs) (h1 : w.cell? ⟨b1, 0, none⟩ = some (.int .i64 s)) (ha : ∀ h ∈ fs, h.s = s) :
    Calls Tryz.prog 193 #[v, .func (.func 194) #[] #[.pointer (some ⟨b1, 0, none⟩)]] w fun e w' => ∃ v', e = .returned v' ∧ LR w' v' [] ∧ v'.ownBlock = v.ownBlock ∧ w.grownBy w' v.ownBlock := by
  have HIX := Aside0.mk (index_free v fs b1 s w hf h1 ha)
  obtain ⟨l, hl⟩ : ∃ l, fs.length = l := ⟨_, rfl⟩
  rw [hl] at HIX
  have HF := Aside0.mk hf
  have HL := Aside0.mk hl
  have HC1 := Aside0.mk h1
  have HA := Aside0.mk ha
  obtain ⟨A, cap, hv, _⟩ := ow_slice hf.1
  have hl8 : l ≤ 100000 := by rw [← hl]; exact hf.2
  rw [hl] at hv
  subst hv
  by_cases h0 : l = 0
  · subst h0
    have h00 : fs = [] := List.eq_nil_of_length_eq_zero hl
    have HR := Aside0.mk (show ∀ w', Below w.heap.size w w' → LR w' (.slice A 0 cap) [] from fun w' hb => by rw [← h00]; exact hf.below hb)
    simp only [if_true] at HIX
    clear hf h1 ha hl
    go_enter Tryz.func193, Tryz.ntmps193
    go_wp2_with fail
    refine HIX.out.mono ?_
    rintro e w1 ⟨rfl, hb⟩
    have HB := Aside0.mk hb
    clear hb
    go_wp2_with fail
    go_ret
    exact ⟨_, rfl, HR.out _ HB.out, rfl, ⟨HB.out.os, HB.out.tape, HB.out.output, HB.out.size, fun k hk _ => HB.out.block k hk⟩⟩
  · rw [if_neg h0] at HIX
    obtain ⟨g, rfl⟩ : ∃ g, A = some ⟨g, 0, none⟩ := by
      rcases hf.form with ⟨_, e⟩ | ⟨g, c, e, _⟩
      · rw [e] at hl; simp at hl; omega
      · injection e with e1; exact ⟨g, e1⟩
    have HN0 := Aside0.mk h0
    clear hf h1 ha hl
    go_enter Tryz.func193, Tryz.ntmps193
    go_wp2_with fail
    refine HIX.out.mono ?_
    rintro e w1 ⟨rfl, hb⟩
    have HB1 := Aside0.mk hb
    clear hb
    go_wp2_with fail
    go_loopg [5, 6] l (fun kq v5 v6 w' => ∃ j : Int, v5 = .int .i64 0 ∧ v6 = .int .i64 j ∧ Aside0 (1 ≤ j ∧ j ≤ l ∧ (kq : Int) = l + 1 - j) ∧ Aside0 (Below w.heap.size w w'))
    case atStart => exact ⟨1, rfl, rfl, ⟨by omega, by have := HN0.out; omega, by omega⟩, HB1⟩
    case round =>
      obtain ⟨j, rfl, rfl, HJ, HB⟩ := hrel
      have hj0 : 1 ≤ j := HJ.out.1
      by_cases hlt : j < l
      · obtain ⟨f, hf⟩ : ∃ f, fs[j.toNat]? = some f := ⟨_, List.getElem?_eq_getElem (by have := HL.out; omega)⟩
        obtain ⟨g', hg', hll, hd0, hd1, hd2⟩ := (show LR wr (.slice (some ⟨g, 0, none⟩) l cap) fs from HF.out.below HB.out).at hf
        obtain rfl : g = g' := by simpa using hg'
        have hfs := HA.out f (List.mem_of_getElem? hf)
        obtain ⟨fs1, fk, fm⟩ := f
        simp only at hd0 hd1 hd2 hfs
        subst hfs
        clear hf hll hg'
        go_wp2_with fail
        refine (clos_free b1 fs1 fs1 fk fm _ (pw_cell_below (below_alloc HB.out _) HC1.out)).mono ?_
        rintro e w2 ⟨rfl, hb⟩
        have HB2 := Aside0.mk (below_step (below_alloc HB.out _) hb)
        clear hb
        rw [show (fs1 == fs1) = true from by simp]
        go_wp2_with fail
        go_roundg (gk - 1)
        case measure => have := HJ.out; omega
        case rel => exact ⟨j + 1, rfl, rfl, ⟨by omega, by omega, by have := HJ.out; omega⟩, HB2⟩
      · have hown := (HF.out.below HB.out).1
        rw [HL.out] at hown
        obtain ⟨hcs, hfz, _, hnc, hcm⟩ := own_cells hown
        have hl0 : 0 < l := by have := HN0.out; omega
        have hcl := fun ty => clear_lk wr ty g l cap hl0 (fun j hj => hcs j (Nat.lt_of_lt_of_le hj (Nat.mul_le_mul_right _ hnc))) hfz
        have HOWN := Aside0.mk hown
        have hcap0 : ¬ cap = 0 := by omega
        clear hcs hfz hcm hown
        go_wp2_with fail
        obtain ⟨o1, o2⟩ := own_setCells (List.replicate (l * 3) (.int .i64 0)) 0 wr _ HOWN.out
        have o3 := own_cut o1 (Nat.zero_le l)
        refine bodyPost_ret (v := .slice (some ⟨g, 0, none⟩) 0 cap) (by simp [results, Tryz.results193, go_sem]) rfl ⟨_, rfl, ⟨?_, by simp⟩, rfl, ?_⟩
        · have : (setL (lkCells fs) 0 (List.replicate (l * 3) (.int .i64 0))).take (0 * 3) = [] := by simp
          rw [this] at o3
          exact o3
        · have hb := HB.out
          exact ⟨o2.os.trans hb.os, o2.tape.trans hb.tape, o2.output.trans hb.output, Nat.le_trans hb.size o2.size, fun k hk hn => (o2.block k (Nat.lt_of_lt_of_le hk hb.size) hn).trans (hb.block k hk)⟩
theorem free_calls (M : Nat → Prop) (p o e : Nat) (cs : Array Value) (v : Value) (ls : List Lk) (s : Int) (w : World) (h : LkM M w p o e cs v ls) (ha : ∀ h ∈ ls, h.s = s) :
    Calls Tryz.prog 137 #[.pointer (some ⟨p, o, none⟩), .int .i64 s] w fun e' w' => e' = .returned (.tuple #[]) ∧ LkPost M p o e cs [] w w' := by
  have HT := Aside0.mk h
  have HA := Aside0.mk ha
  have hpl := heap_lt h.box
  have hc := h.cell
  obtain ⟨W, hW⟩ : ∃ W, w.alloc (.cells #[.int .i64 s] 3) = W := ⟨_, rfl⟩
  have HBW := Aside0.mk (show Below w.heap.size w W by rw [← hW]; exact below_alloc (Below.refl _ _) _)
  have HD := Aside0.mk (del_all v ls w.heap.size s W (h.row.below HBW.out) (by rw [← hW]; exact cell1 (heap_alloc_new w (.cells #[.int .i64 s] 3))) ha)
  have HWE := Aside0.mk hW
  have hcW := pw_cell_below HBW.out hc
  clear h ha hW hc
  go_enter Tryz.func137, Tryz.ntmps137
  go_upto_region 1 with fail
  rw [HWE.out]
  go_wp2_with fail
  refine HD.out.mono ?_
  rintro e w1 ⟨v', rfl, ho, hat, hg⟩
  have HT1 := Aside0.mk (HT.out.below HBW.out)
  have hb1 : w1.heap[p]? = some (.cells cs e (0, 0)) := (hg.block p (heap_lt HT1.out.box) (fun e => HT1.out.own_ne e.symm)).trans HT1.out.box
  have HP := Aside0.mk ((lk_put HT1.out ho.1 ho.2 hg (.inl hat)).back HBW.out)
  obtain ⟨A', c', rfl, _⟩ := ow_slice ho.1
  have hfz : w1.frozen? ⟨p, o, none⟩ = false := by simp [World.frozen?, hb1]
  have hcz : w1.cell? ⟨p, o, none⟩ = some v := by simp only [World.cell?, hb1]; simpa using HT1.out.at0
  clear ho hat hg hb1
  go_wp2_with fail
  go_end0
  exact ⟨rfl, HP.out⟩
end Go.Proofs.YtaplpeoikebedaaGreatDoor.LockF
