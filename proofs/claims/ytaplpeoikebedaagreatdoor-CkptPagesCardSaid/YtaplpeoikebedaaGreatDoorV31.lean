/- Joined texts: BackL, EndT, LockF, FwdL, BackM, BackW, BackV, BackN, BackS, BackU, StoreK, BackA, BackB. No condition but what each says. -/
import Derived.Test.YtaplpeoikebedaaGreatDoorV30
import Derived.Test.YtaplpeoikebedaaGreatDoorV21
import Derived.Test.YtaplpeoikebedaaGreatDoorV24
import Derived.Test.YtaplpeoikebedaaGreatDoorV13
import Derived.Test.YtaplpeoikebedaaGreatDoorV26
import Derived.Deep.RegionLaw
import Derived.Deep.DeepCutAuto
import Derived.Test.YtaplpeoikebedaaGreatDoorV28
import Derived.Test.YtaplpeoikebedaaGreatDoorV25
import Derived.BigQuiet
set_option maxHeartbeats 8000000
set_option maxRecDepth 100000
set_option linter.unusedVariables false
set_option linter.unusedSimpArgs false
namespace Go.Proofs.YtaplpeoikebedaaGreatDoor.BackL
open Go.RowKit See Mem RecD Dirty Wal WalF PoolG PoolS SysD SysM FlushG Pager StoreD PageM StoreF StoreG StoreH StoreI StoreJ BackD
def undoV (L : Lg) (k : Int) (f : Int → Option Int) : Int → Option Int :=
  match recOf L k with
  | some r => fun j => if j = r.key then (if r.had then some r.old else none) else f j
  | none => f
def rewV (L : Lg) : List Int → (Int → Option Int) → Int → Option Int
  | [], f => f
  | k :: ks, f => rewV L ks (undoV L k f)
theorem rewV_append (L : Lg) : ∀ (p q : List Int) (f : Int → Option Int), rewV L (p ++ q) f = rewV L q (rewV L p f)
  | [], _, _ => rfl
  | k :: p, q, f => rewV_append L p q (undoV L k f)
theorem setS_l (S : PSys) (n lsn : Int) (es : List (Int × Int)) : (setS S n lsn es).1.l = S.l ∧ (setS S n lsn es).1.frames = S.frames := by
  unfold setS
  split
  · exact ⟨rfl, rfl⟩
  · split <;> exact ⟨rfl, rfl⟩
theorem chg_l (S : PSys) (r : RecV) : (chgS S r).l = (addRec S r).l ∧ (chgS S r).frames = S.frames := setS_l _ _ _ _
theorem set_rew {F : FS} {id key : Int} {had : Bool} {old : Int} {has : Bool} {new : Int} (ho : had = (vals F key).isSome) (h2 : (if had then some old else none) = vals F key) (hv : ∀ k, k ≠ key → vals (setF F id key had old has new) k = vals F k) :
    undoV (setF F id key had old has new).S.l (F.S.l.last + 1) (vals (setF F id key had old has new)) = vals F := by
  have hl : (setF F id key had old has new).S.l = (addRec F.S (recSet (tget F.ts id) F.P key had old has new)).l := (chg_l _ _).1
  unfold undoV
  rw [hl, addRec_new]
  funext j
  show (if j = key then (if had then some old else none) else vals _ j) = _
  by_cases e : j = key
  · rw [if_pos e, h2, e]
  · rw [if_neg e, hv j e]
theorem Norm.le {L : Lg} {n k : Int} (h : Norm L n k) : k = 0 ∨ k ≤ n := by
  induction h with
  | zero => exact .inl rfl
  | set => exact .inr (Int.le_refl _)
  | begin => exact .inl rfl
  | clr _ _ _ h3 _ ih => exact ih.elim .inl fun h => .inr (by omega)
  | end_ _ _ _ h3 _ ih => exact ih.elim .inl fun h => .inr (by omega)
theorem Chain.le {L : Lg} {n : Int} {ks : List Int} (h : Chain L n ks) : ∀ k ∈ ks, k ≤ n := by
  induction h with
  | nil => intro k hk; cases hk
  | cons h0 h1 h2 h3 _ ih =>
    have hn := (Norm.le h0).resolve_left h1
    intro j hj
    rcases List.mem_cons.1 hj with rfl | hj
    · exact hn
    · have := ih j hj; omega
structure UndoR (N m : Nat) (ch : Int → List Int) (kp : Int → Int) (F : FS) (id : Int) (pre rest : List Int) (F' : FS) : Prop where
  ok : FOk N (m + pre.length) (updc ch id rest) kp F'
  vals_ : ∀ j, vals F' j = rewV F.S.l pre (vals F) j
  last : F'.S.l.last = F.S.l.last + (pre.length : Int)
  old : ∀ n r, recOf F.S.l n = some r → recOf F'.S.l n = some r
  same : F'.P = F.P ∧ F'.sess = F.sess ∧ F'.ks = F.ks ∧ F'.most = F.most ∧ F'.of = F.of ∧ F'.free = F.free ∧ F'.S.frames = F.S.frames
  has_ : thas F'.ts id = true
  ids : idsT F'.ts = idsT F.ts
theorem UndoR.refl {N m : Nat} {ch : Int → List Int} {kp : Int → Int} {F : FS} {id : Int} (h : FOk N m ch kp F) (hid : thas F.ts id = true) : UndoR N m ch kp F id [] (ch id) F := by
  refine ⟨?_, fun j => rfl, by simp, fun n r h => h, ⟨rfl, rfl, rfl, rfl, rfl, rfl, rfl⟩, hid, rfl⟩
  have e : updc ch id (ch id) = ch := by funext t; unfold updc; split <;> simp_all
  rw [e]; exact h
theorem UndoR.step {N m : Nat} {ch : Int → List Int} {kp : Int → Int} {F F' : FS} {id k : Int} {pre ks : List Int} (hint : Int) (h : UndoR N m ch kp F id pre (k :: ks) F') (hk : ∃ r, recOf F.S.l k = some r) (hkp : ∀ x, 0 ≤ kp x) (hm : m + pre.length ≤ 39000) (hfr : F.S.frames ≤ 8) :
    ∃ S' r, BackIn F' id k (ks.headD 0) r hint S' ∧ UndoR N m ch kp F id (pre ++ [k]) ks (backF F' id k (ks.headD 0) r hint) := by
  obtain ⟨r, hr⟩ := hk
  have hch : updc ch id (k :: ks) id = k :: ks := by unfold updc; rw [if_pos rfl]
  obtain ⟨s1, s2, s3, s4, s5, s6, s7⟩ := h.same
  obtain ⟨S', b1, b2, b3⟩ := back_in hint h.ok h.has_ hch (h.old k r hr) hkp hm (by rw [s7]; exact hfr)
  have e1 : updc (updc ch id (k :: ks)) id ks = updc ch id ks := by funext t; unfold updc; split <;> rfl
  rw [e1] at b2
  obtain ⟨p1, p2⟩ := placeOf_in r.key h.ok.g.pg.pages
  obtain ⟨hx, hxid⟩ := tget_mem h.has_
  have hsp := (h.ok.c.sets _ hx k (by rw [hxid, hch]; exact List.mem_cons_self) r (h.old k r hr)).page
  rw [← hsp] at p1 p2
  obtain ⟨S2, e2, e3, e4, e5⟩ := get_ok h.ok hint p1 p2
  obtain ⟨l1, l2, l3, l4, l5⟩ := e4.ll
  have hS : backF F' id k (ks.headD 0) r hint = undoF { F' with S := S2 } id k (ks.headD 0) r := by unfold backF; rw [e2]
  have hfr2 : S2.frames = F'.S.frames := e4.frames
  have hro := room_done (L := F'.S.l) (L' := S2.l) ⟨l2, l3, l1⟩
  have hL := chg_l S2 (recClr (tget ({ F' with S := S2 } : FS).ts id) r k (ks.headD 0))
  have hB : (backF F' id k (ks.headD 0) r hint).S.l = (addRec S2 (recClr (tget ({ F' with S := S2 } : FS).ts id) r k (ks.headD 0))).l := by rw [hS]; exact hL.1
  refine ⟨S', r, b1, ⟨?_, fun j => ?_, ?_, fun n q hq => ?_, ?_, ?_, ?_⟩⟩
  · have : m + (pre ++ [k]).length = m + pre.length + 1 := by simp; omega
    rw [this]; exact b2
  · rw [b3 j, rewV_append]
    show _ = undoV F.S.l k (rewV F.S.l pre (vals F)) j
    unfold undoV
    rw [hr]
    simp only [h.vals_ j]
  · rw [hB, addRec_last, hro.2, h.last]
    simp
    omega
  · rw [hB]
    refine addRec_rec ?_
    rw [recOf_done l2 l1]
    exact h.old n q hq
  · rw [hS]
    exact ⟨s1, s2, s3, s4, s5, s6, by rw [← s7, ← hfr2]; exact hL.2⟩
  · rw [hS]
    show thas (tnote F'.ts id _ _) id = true
    rw [thas_ids (tnote_rise h.ok.t.rise), ids_tnote, ← thas_ids h.ok.t.rise]
    exact h.has_
  · rw [hS]
    show idsT (tnote F'.ts id _ _) = _
    rw [ids_tnote]
    exact h.ids
end Go.Proofs.YtaplpeoikebedaaGreatDoor.BackL
namespace Go.Proofs.YtaplpeoikebedaaGreatDoor.EndT
open Go.RowKit Go.Maps YtaplpeoikebedaaGreatDoorW.PrintWords YtaplpeoikebedaaGreatDoorW.PrintLast YtaplpeoikebedaaGreatDoorW.PrintMore
open See Mem Page Disk DiskN DiskW RecD Rec Dirty Wal WalF SysD SysM FlushG Pager StoreD PageM StoreF StoreG StoreH StoreI StoreJ TransT LockT LockU SpaceT WaitT FwdM FwdP FwdC FwdT FwdB FwdS
attribute [local go_sem] max2_imax min2_imin max_two min_two
end Go.Proofs.YtaplpeoikebedaaGreatDoor.EndT
namespace Go.Proofs.YtaplpeoikebedaaGreatDoor.LockF
open Go.RowKit YtaplpeoikebedaaGreatDoorW.PrintWords YtaplpeoikebedaaGreatDoorW.PrintLast YtaplpeoikebedaaGreatDoorW.PrintMore
open See Mem Clone Go.Proofs.YtaplpeoikebedaaGreatDoor.Cell Page PageR Disk DiskN Pool1 Pool2 Rw Del Num SortI StoreD TransT LockT LockU
attribute [local go_sem] max2_imax min2_imin max_two min_two
end Go.Proofs.YtaplpeoikebedaaGreatDoor.LockF
namespace Go.Proofs.YtaplpeoikebedaaGreatDoor.FwdL
open Go.RowKit Go.Maps YtaplpeoikebedaaGreatDoorW.PrintWords YtaplpeoikebedaaGreatDoorW.PrintLast YtaplpeoikebedaaGreatDoorW.PrintMore
open See Mem Page Disk DiskN DiskW RecD Dirty Wal SysD SysM StoreD StoreF StoreH TransT LockT LockU LockF SpaceT WaitT FwdM FwdP FwdC FwdN EndT
attribute [local go_sem] max2_imax min2_imin max_two min_two
end Go.Proofs.YtaplpeoikebedaaGreatDoor.FwdL
namespace Go.Proofs.YtaplpeoikebedaaGreatDoor.BackM
open Go.RowKit Go.Maps YtaplpeoikebedaaGreatDoorW.PrintWords YtaplpeoikebedaaGreatDoorW.PrintLast YtaplpeoikebedaaGreatDoorW.PrintMore
open See Mem Page Disk Pool2 SysD SysM StoreD StoreF TransT LockT LockU SpaceT WaitT FwdM FwdP FwdC FwdT
attribute [local go_sem] max2_imax min2_imin max_two min_two
structure Sv where
  txn : Int
  l : List Int
structure BSt where
  F : FS
  sv : Int → Sv
  nu : Int
def rS (v : Value) : Option (DataW Value × List MemPlace) := some (.held v, [])
def svV (t : Int) (sl : Value) : Value := .agg #[.int .i64 t, sl]
def svz : Value := svV 0 (.slice none 0 0)
def SvM (w : World) (bm : Nat) (m : Int) (vv : Int → Value) : Prop :=
  ∃ (n : Nat) (D : DataW Value), w.ownsMap Tryz.prog 3 rS bm n D ∧ (n : Int) ≤ m ∧ ∀ s : Int, D.atKey (.int .i64 s) (.held svz) = .held (vv s)
theorem SvM.move {w w' : World} {bm : Nat} {m : Int} {vv : Int → Value} (h : SvM w bm m vv) (hb : w'.heap[bm]? = w.heap[bm]?) : SvM w' bm m vv := by
  obtain ⟨n, D, ⟨es, cl, h1, h2⟩, h3⟩ := h
  exact ⟨n, D, ⟨es, cl, hb.trans h1, h2⟩, h3⟩
theorem SvM.map {w : World} {bm : Nat} {m : Int} {vv : Int → Value} (h : SvM w bm m vv) : ∃ es cl, w.heap[bm]? = some (.map es cl) := by
  obtain ⟨n, D, ⟨es, cl, h1, h2⟩, h3⟩ := h
  exact ⟨es, cl, h1⟩
structure BkIn (M : Nat → Prop) (w : World) (bp bm sp lp pp dp qp mp : Nat) (blocks frames : Int) (B : BSt) (R : Nat → Prop) (sl : Int → Value) : Prop where
  box : w.heap[bp]? = some (.cells #[.pointer (some ⟨sp, 0, none⟩), .map (some bm)] 61 (0, 0))
  f : FwM R w sp lp pp dp qp mp blocks frames B.F
  map : SvM w bm B.nu (fun s => svV (B.sv s).txn (sl s))
  row : ∀ s, IS w 0 (sl s) (B.sv s).l
  r : ∀ k, R k → M k ∧ k ≠ bp ∧ k ≠ bm ∧ ∀ s, (sl s).ownBlock ≠ some k
  own : ∀ s k, (sl s).ownBlock = some k → M k
  apart : ∀ s t k, (sl s).ownBlock = some k → (sl t).ownBlock = some k → s = t
  low : M bp ∧ M bm
def BkM (M : Nat → Prop) (w : World) (bp bm sp lp pp dp qp mp : Nat) (blocks frames : Int) (B : BSt) : Prop := ∃ R sl, BkIn M w bp bm sp lp pp dp qp mp blocks frames B R sl
def BkPost (M : Nat → Prop) (bp bm sp lp pp dp qp mp : Nat) (blocks frames : Int) (B : BSt) (w w' : World) : Prop := BkM (Gr M w w') w' bp bm sp lp pp dp qp mp blocks frames B ∧ Kp M w w'
section
variable {M R : Nat → Prop} {bp bm sp lp pp dp qp mp : Nat} {blocks frames : Int} {B : BSt} {sl : Int → Value} {w w1 w2 w' : World}
theorem BkIn.rowAt (h : BkIn M w bp bm sp lp pp dp qp mp blocks frames B R sl) {s : Int} {k : Nat} (hk : (sl s).ownBlock = some k) : k < w.heap.size ∧ tag w k = 3 ∧ ¬ R k := by
  obtain ⟨_, c, hc⟩ := ow_block (h.row s) hk
  exact ⟨heap_lt hc, tag_of hc, fun hr => (h.r k hr).2.2.2 s hk⟩
theorem BkIn.cells (h : BkIn M w bp bm sp lp pp dp qp mp blocks frames B R sl) : w.cell? ⟨bp, 0, none⟩ = some (.pointer (some ⟨sp, 0, none⟩)) ∧ w.cell? ⟨bp, 1, none⟩ = some (.map (some bm)) := by
  have hb := h.box
  refine ⟨?_, ?_⟩ <;> simp [World.cell?, hb]
theorem BkIn.mono {M' : Nat → Prop} (h : BkIn M w bp bm sp lp pp dp qp mp blocks frames B R sl) (hm : ∀ k, M k → M' k) : BkIn M' w bp bm sp lp pp dp qp mp blocks frames B R sl :=
  ⟨h.box, h.f, h.map, h.row, fun k hk => ⟨hm k (h.r k hk).1, (h.r k hk).2⟩, fun s k hk => hm k (h.own s k hk), h.apart, hm _ h.low.1, hm _ h.low.2⟩
theorem BkM.mono {M' : Nat → Prop} (h : BkM M w bp bm sp lp pp dp qp mp blocks frames B) (hm : ∀ k, M k → M' k) : BkM M' w bp bm sp lp pp dp qp mp blocks frames B := by
  obtain ⟨R, sl, h⟩ := h
  exact ⟨R, sl, h.mono hm⟩
theorem BkM.below (h : BkM M w bp bm sp lp pp dp qp mp blocks frames B) (hb : Below w.heap.size w w') : BkM M w' bp bm sp lp pp dp qp mp blocks frames B := by
  obtain ⟨R, sl, h⟩ := h
  obtain ⟨es, cl, hm⟩ := h.map.map
  exact ⟨R, sl, (hb.block _ (heap_lt h.box)).trans h.box, h.f.below hb, h.map.move (hb.block _ (heap_lt hm)), fun s => (h.row s).below hb, h.r, h.own, h.apart, h.low⟩
theorem BkIn.below (h : BkIn M w bp bm sp lp pp dp qp mp blocks frames B R sl) (hb : Below w.heap.size w w') : BkIn M w' bp bm sp lp pp dp qp mp blocks frames B R sl := by
  obtain ⟨es, cl, hm⟩ := h.map.map
  exact ⟨(hb.block _ (heap_lt h.box)).trans h.box, h.f.below hb, h.map.move (hb.block _ (heap_lt hm)), fun s => (h.row s).below hb, h.r, h.own, h.apart, h.low⟩
theorem BkIn.fwI (h : BkIn M w bp bm sp lp pp dp qp mp blocks frames B R sl) {F' : FS} (hp : FwPost R sp lp pp dp qp mp blocks frames F' w w') : BkIn (Gr M w w') w' bp bm sp lp pp dp qp mp blocks frames { B with F := F' } (Gr R w w') sl ∧ Kp M w w' := by
  obtain ⟨f, k⟩ := hp
  obtain ⟨es, cl, hm⟩ := h.map.map
  have nb : ¬ R bp := fun hr => (h.r bp hr).2.1 rfl
  have nm : ¬ R bm := fun hr => (h.r bm hr).2.2.1 rfl
  refine ⟨⟨k.at h.box nb, f, h.map.move (k.block _ (heap_lt hm) nm), fun s => ow_move (h.row s) fun j hj => ?_, fun j hj => ?_, fun s j hj => .inl (h.own s j hj), h.apart, .inl h.low.1, .inl h.low.2⟩, k.wide fun j hj => (h.r j hj).1⟩
  · obtain ⟨q1, _, q3⟩ := h.rowAt hj
    exact k.block j q1 q3
  · rcases hj with hj | ⟨q1, q2⟩
    · obtain ⟨a, b, c, d⟩ := h.r j hj
      exact ⟨.inl a, b, c, d⟩
    · refine ⟨.inr ⟨q1, q2⟩, fun e => ?_, fun e => ?_, fun s hs => ?_⟩
      · have := heap_lt h.box; omega
      · have := heap_lt hm; omega
      · have := (h.rowAt hs).1; omega
theorem BkIn.fw (h : BkIn M w bp bm sp lp pp dp qp mp blocks frames B R sl) {F' : FS} (hp : FwPost R sp lp pp dp qp mp blocks frames F' w w') : BkPost M bp bm sp lp pp dp qp mp blocks frames { B with F := F' } w w' := ⟨⟨_, sl, (h.fwI hp).1⟩, (h.fwI hp).2⟩
theorem BkIn.but (h : BkIn M w bp bm sp lp pp dp qp mp blocks frames B R sl) {b : Nat} (hb : ∀ k, k ≠ b → w'.heap[k]? = w.heap[k]?) (hn : ¬ R b) (ht : tag w b ∉ dTags ∧ tag w b ≠ 169) (h1 : b ≠ bp) (h2 : b ≠ bm) (h3 : tag w b ≠ 3) : BkIn M w' bp bm sp lp pp dp qp mp blocks frames B R sl :=
  ⟨(hb bp h1.symm).trans h.box, FwM.but h.f hb hn ht, h.map.move (hb bm h2.symm), fun s => ow_move (h.row s) fun j hj => hb j fun e => h3 (by rw [← e]; exact (h.rowAt hj).2.1), h.r, h.own, h.apart, h.low⟩
theorem BkPost.refl (h : BkM M w bp bm sp lp pp dp qp mp blocks frames B) : BkPost M bp bm sp lp pp dp qp mp blocks frames B w w := ⟨h.mono fun _ h => .inl h, .refl _ _⟩
theorem BkPost.trans {B' : BSt} (h : BkPost M bp bm sp lp pp dp qp mp blocks frames B w w1) (k : BkM (Gr M w w1) w1 bp bm sp lp pp dp qp mp blocks frames B → BkPost (Gr M w w1) bp bm sp lp pp dp qp mp blocks frames B' w1 w2) : BkPost M bp bm sp lp pp dp qp mp blocks frames B' w w2 := by
  obtain ⟨a, b⟩ := h
  obtain ⟨c, d⟩ := k a
  exact ⟨BkM.mono c fun j hj => Gr.trans b.size d.size hj, b.transG d⟩
theorem BkPost.step (h : BkPost M bp bm sp lp pp dp qp mp blocks frames B w w1) (k : Below w1.heap.size w1 w2) : BkPost M bp bm sp lp pp dp qp mp blocks frames B w w2 :=
  ⟨BkM.mono (BkM.below h.1 k) fun j hj => Gr.grow k.size hj, h.2.step k⟩
theorem BkM.cut (h : BkM M w bp bm sp lp pp dp qp mp blocks frames B) : BkM (Cut M w.heap.size) w bp bm sp lp pp dp qp mp blocks frames B := by
  obtain ⟨R, sl, h⟩ := h
  obtain ⟨es, cl, hm⟩ := h.map.map
  exact ⟨Cut R w.heap.size, sl, h.box, FwM.cut h.f, h.map, h.row, fun k hk => ⟨⟨(h.r k hk.1).1, hk.2⟩, (h.r k hk.1).2⟩, fun s k hk => ⟨h.own s k hk, (h.rowAt hk).1⟩, h.apart, ⟨h.low.1, heap_lt h.box⟩, ⟨h.low.2, heap_lt hm⟩⟩
end
end Go.Proofs.YtaplpeoikebedaaGreatDoor.BackM
namespace Go.Proofs.YtaplpeoikebedaaGreatDoor.BackW
open Go.RowKit Go.Maps YtaplpeoikebedaaGreatDoorW.PrintWords YtaplpeoikebedaaGreatDoorW.PrintLast YtaplpeoikebedaaGreatDoorW.PrintMore
open See Mem Page Disk Dirty Pool2 SysD SysM StoreD StoreF TransT LockT LockU SpaceT WaitT FwdM FwdP FwdC FwdE FwdT BackM
attribute [local go_sem] max2_imax min2_imin max_two min_two
def slOf (B : BSt) (sl : Int → Value) (n id : Int) : Value := if (B.sv n).txn = id then sl n else .slice none 0 0
end Go.Proofs.YtaplpeoikebedaaGreatDoor.BackW
namespace Go.Proofs.YtaplpeoikebedaaGreatDoor.BackV
open Go.RowKit Go.Maps YtaplpeoikebedaaGreatDoorW.PrintWords YtaplpeoikebedaaGreatDoorW.PrintLast YtaplpeoikebedaaGreatDoorW.PrintMore
open See Mem Clone Go.Proofs.YtaplpeoikebedaaGreatDoor.Cell Page PageB PageR Disk Dirty Pool2 SysD SysM StoreD StoreF TransT LockT LockU SpaceT WaitT FwdM FwdP FwdC FwdE FwdT BackM BackW
attribute [local go_sem] max2_imax min2_imin max_two min_two
theorem SvM.put {w : World} {bm : Nat} {m : Int} {vv : Int → Value} (h : SvM w bm m vv) {s : Int} {v : Value} (h0 : -9223372036854775808 ≤ s) (h1 : s ≤ 9223372036854775807) (hm : m < 1000000) :
    ∃ w', (Instr.mapUpdate 59 (.map (some bm)) (.int .i64 s) v).run Tryz.prog w = .ok () w' ∧ SvM w' bm (m + 1) (fun t => if t = s then v else vv t) ∧ w.grownBy w' (some bm) := by
  obtain ⟨n, D, hown, hn, hat⟩ := h
  obtain ⟨w', hrun, hown', hg⟩ := hown.update (key := .int .i64 s) (val := v) (d := .held v) (ps := []) (int_keyed Tryz.underlying3) Tryz.underlying59 (by unfold maxLen; omega) (keyOf_int_mk Tryz.underlying3 (wf64 h0 h1)) rfl
  refine ⟨w', hrun, ⟨n + 1, _, hown', by push_cast; omega, fun t => ?_⟩, hg⟩
  show _ = DataW.held (if t = s then v else vv t)
  by_cases e : t = s
  · rw [if_pos e, e]
    exact atKey_put_same (k := .int .i64 s) hown.isMap trivial _ _
  · rw [if_neg e, atKey_put_other (fun h => e (by injection h)), hat]
def updS (sv : Int → Sv) (n : Int) (v : Sv) : Int → Sv := fun t => if t = n then v else sv t
theorem BkIn.put {M R : Nat → Prop} {bp bm sp lp pp dp qp mp : Nat} {blocks frames : Int} {B : BSt} {sl : Int → Value} {w w' : World} (h : BkIn M w bp bm sp lp pp dp qp mp blocks frames B R sl) {n id t : Int} {v' : Value} {xs' : List Int} {nu : Int}
    (hos : w'.os = w.os ∧ w'.tape = w.tape ∧ w'.output = w.output) (hsz : w.heap.size ≤ w'.heap.size) (hfar : ∀ j, j < w.heap.size → j ≠ bm → (slOf B sl n id).ownBlock ≠ some j → w'.heap[j]? = w.heap[j]?)
    (hmap : SvM w' bm nu (fun s => if s = n then svV t v' else svV (B.sv s).txn (sl s))) (hrow : IS w' 0 v' xs') (hown : ∀ g, v'.ownBlock = some g → (slOf B sl n id).ownBlock = some g ∨ (w.heap.size ≤ g ∧ g < w'.heap.size)) :
    BkPost M bp bm sp lp pp dp qp mp blocks frames { F := B.F, sv := updS B.sv n ⟨t, xs'⟩, nu := nu } w w' := by
  obtain ⟨es, cl, hm⟩ := h.map.map
  have hsl : ∀ j, (slOf B sl n id).ownBlock = some j → (sl n).ownBlock = some j := fun j hj => by
    unfold slOf at hj
    split at hj
    · exact hj
    · simp [Value.ownBlock] at hj
  have nb : ¬ R bp := fun hr => (h.r bp hr).2.1 rfl
  have nm : ¬ R bm := fun hr => (h.r bm hr).2.2.1 rfl
  have hml := heap_lt hm
  have hbl := heap_lt h.box
  have hbm : bp ≠ bm := fun e => by have := h.box; rw [e, hm] at this; cases this
  have tm : tag w bm = 0 := by unfold tag; rw [hm]
  have hrow0 : ∀ j, (slOf B sl n id).ownBlock = some j → j < w.heap.size ∧ tag w j = 3 ∧ ¬ R j ∧ j ≠ bp ∧ j ≠ bm := fun j hj => by
    obtain ⟨a, b, c⟩ := h.rowAt (hsl j hj)
    refine ⟨a, b, c, fun e => ?_, fun e => ?_⟩
    · rw [e, tag_of h.box] at b; exact absurd b (by decide)
    · rw [e, tm] at b; exact absurd b (by decide)
  have hf : FwM (Cut R w.heap.size) w' sp lp pp dp qp mp blocks frames B.F := FwM.out (FwM.cut h.f) fun k hk hh => hfar k hk (fun e => by
    subst e
    rcases hh with hh | hh | hh
    · exact nm hh.1
    · rw [tm] at hh; exact absurd hh (by decide)
    · rw [tm] at hh; exact absurd hh (by decide)) (fun e => by
    obtain ⟨a, b, c, _⟩ := hrow0 k e
    rcases hh with hh | hh | hh
    · exact c hh.1
    · rw [b] at hh; exact absurd hh (by decide)
    · rw [b] at hh; exact absurd hh (by decide))
  refine ⟨⟨Cut R w.heap.size, fun s => if s = n then v' else sl s, (hfar bp hbl hbm fun e => (hrow0 bp e).2.2.2.1 rfl).trans h.box, hf, ?_, fun s => ?_, fun k hk => ?_, fun s k hk => ?_, fun s u k hs hu => ?_, .inl h.low.1, .inl h.low.2⟩, ⟨hos.1, hos.2.1, hos.2.2, hsz, fun k hk hn => ?_, fun k hk ht => ?_⟩⟩
  · have e : (fun s => svV ((updS B.sv n ⟨t, xs'⟩) s).txn (if s = n then v' else sl s)) = (fun s => if s = n then svV t v' else svV (B.sv s).txn (sl s)) := by
      funext s
      unfold updS
      by_cases e : s = n
      · rw [if_pos e, if_pos e, if_pos e]
      · rw [if_neg e, if_neg e, if_neg e]
    show SvM w' bm nu (fun s => svV ((updS B.sv n ⟨t, xs'⟩) s).txn (if s = n then v' else sl s))
    rw [e]; exact hmap
  · show IS w' 0 (if s = n then v' else sl s) ((updS B.sv n ⟨t, xs'⟩) s).l
    unfold updS
    by_cases e : s = n
    · rw [if_pos e, if_pos e]; exact hrow
    · rw [if_neg e, if_neg e]
      refine ow_move (h.row s) fun j hj => ?_
      obtain ⟨a, b, _⟩ := h.rowAt hj
      exact hfar j a (fun e2 => by rw [e2, tm] at b; exact absurd b (by decide)) (fun e2 => e (h.apart s n j hj (hsl j e2)))
  · obtain ⟨a, b, c, d⟩ := h.r k hk.1
    refine ⟨.inl a, b, c, fun s hs => ?_⟩
    by_cases e : s = n
    · rw [if_pos e] at hs
      rcases hown k hs with hs | ⟨q, _⟩
      · exact d n (hsl k hs)
      · have := hk.2; omega
    · rw [if_neg e] at hs
      exact d s hs
  · by_cases e : s = n
    · rw [if_pos e] at hk
      rcases hown k hk with hk | hk
      · exact .inl (h.own n k (hsl k hk))
      · exact .inr hk
    · rw [if_neg e] at hk
      exact .inl (h.own s k hk)
  · by_cases e : s = n
    · by_cases e2 : u = n
      · rw [e, e2]
      · exfalso
        rw [if_pos e] at hs
        rw [if_neg e2] at hu
        rcases hown k hs with hs | ⟨q, _⟩
        · exact e2 (h.apart u n k hu (hsl k hs))
        · have := (h.rowAt hu).1; omega
    · by_cases e2 : u = n
      · exfalso
        rw [if_neg e] at hs
        rw [if_pos e2] at hu
        rcases hown k hu with hu | ⟨q, _⟩
        · exact e (h.apart s n k hs (hsl k hu))
        · have := (h.rowAt hs).1; omega
      · rw [if_neg e] at hs
        rw [if_neg e2] at hu
        exact h.apart s u k hs hu
  · exact hfar k hk (fun e => hn (by rw [e]; exact h.low.2)) (fun e => hn (h.own n k (hsl k e)))
  · exact hfar k hk (fun e => by rw [e, tm] at ht; exact absurd ht (by decide)) (fun e => by rw [(hrow0 k e).2.1] at ht; exact absurd ht (by decide))
end Go.Proofs.YtaplpeoikebedaaGreatDoor.BackV
namespace Go.Proofs.YtaplpeoikebedaaGreatDoor.BackN
open Go.RowKit Go.Maps YtaplpeoikebedaaGreatDoorW.PrintWords YtaplpeoikebedaaGreatDoorW.PrintLast YtaplpeoikebedaaGreatDoorW.PrintMore
open See Mem Page Disk DiskN RecD Pool2 Pool3 Wal Fresh SysD SysM StoreD StoreF StoreI StoreJ RoomD TransT LockT LockU SpaceT WaitT FwdM FwdP FwdC FwdN FwdO FwdB FwdG First17 RefN BackM BackV
attribute [local go_sem] max2_imax min2_imin max_two min_two
def newB (F : FS) : BSt := ⟨F, fun _ => ⟨0, []⟩, 0⟩
theorem bnew_calls (n0 sp lp pp dp qp mp : Nat) (blocks frames : Int) (F : FS) (w : World) (h : FwM (fun k => n0 ≤ k) w sp lp pp dp qp mp blocks frames F) (hn : n0 ≤ w.heap.size) :
    Calls Tryz.prog 82 #[.pointer (some ⟨sp, 0, none⟩)] w fun e w' => ∃ bp bm, e = .returned (.pointer (some ⟨bp, 0, none⟩)) ∧ BkM (fun k => n0 ≤ k) w' bp bm sp lp pp dp qp mp blocks frames (newB F) ∧ Below w.heap.size w w' := by
  have HF := Aside0.mk h
  clear h
  have hmm := @run_makeMap Tryz.prog
  go_enter Tryz.func82, Tryz.ntmps82
  go_wp2_with fail
  have HB := Aside0.mk (show Below w.heap.size w ((w.alloc (.map #[] 0)).alloc (.cells #[.pointer (some ⟨sp, 0, none⟩), .map (some w.heap.size)] 61)) from by repeat (first | exact Below.refl _ _ | apply below_alloc))
  have HS := Aside0.mk (show SvM ((w.alloc (.map #[] 0)).alloc (.cells #[.pointer (some ⟨sp, 0, none⟩), .map (some w.heap.size)] 61)) w.heap.size 0 (fun _ => svV 0 (.slice none 0 0)) from
    ⟨0, .map [], (World.ownsMap_made w Tryz.prog 3 rS).alloc _, Int.le_refl _, fun s => rfl⟩)
  have HX := Aside0.mk (show ((w.alloc (.map #[] 0)).alloc (.cells #[.pointer (some ⟨sp, 0, none⟩), .map (some w.heap.size)] 61)).heap[w.heap.size + 1]? = some (.cells #[.pointer (some ⟨sp, 0, none⟩), .map (some w.heap.size)] 61 (0, 0)) from
    ChangeT.alloc_at _ _ (show (w.alloc _).heap.size = w.heap.size + 1 from by show (w.heap.push _).size = _; rw [Array.size_push]))
  go_ret
  refine ⟨w.heap.size + 1, w.heap.size, rfl, ⟨Cut (fun k => n0 ≤ k) w.heap.size, fun _ => .slice none 0 0, HX.out, (FwM.cut HF.out).below HB.out, HS.out, fun s => IS.nil _ _, fun k hk => ⟨hk.1, by have := hk.2; omega, by have := hk.2; omega, fun s => by simp [Value.ownBlock]⟩, fun s k hk => by simp [Value.ownBlock] at hk, fun s t k hk => by simp [Value.ownBlock] at hk, ⟨by show n0 ≤ _; omega, hn⟩⟩, HB.out⟩
theorem cfg_keep {w w' : World} {b : Nat} {o : Obj} (h : w.heap[b]? = some o) (hb : Below w.heap.size w w') : w'.heap[b]? = some o := (hb.block _ (heap_lt h)).trans h
end Go.Proofs.YtaplpeoikebedaaGreatDoor.BackN
namespace Go.Proofs.YtaplpeoikebedaaGreatDoor.BackS
open Go.RowKit Go.Maps YtaplpeoikebedaaGreatDoorW.PrintWords YtaplpeoikebedaaGreatDoorW.PrintLast YtaplpeoikebedaaGreatDoorW.PrintMore
open See Mem Page Disk DiskN DiskW RecD Rec Dirty Wal WalF WalR PoolG PoolS SysD SysM FlushG Pager StoreD PageM StoreF StoreG StoreH StoreI StoreJ TransT LockT LockU SpaceT WaitT ChainT ChangeT ChangeU FwdM FwdP FwdC FwdT FwdB FwdS BackD
attribute [local go_sem] max2_imax min2_imin max_two min_two
end Go.Proofs.YtaplpeoikebedaaGreatDoor.BackS
namespace Go.Proofs.YtaplpeoikebedaaGreatDoor.BackU
open Go.RowKit Go.Maps YtaplpeoikebedaaGreatDoorW.PrintWords YtaplpeoikebedaaGreatDoorW.PrintLast YtaplpeoikebedaaGreatDoorW.PrintMore
open See Mem Clone Go.Proofs.YtaplpeoikebedaaGreatDoor.Cell Page PageB PageR Disk Dirty Pool2 RecD Wal WalF PoolG PoolS SysD SysM StoreD StoreF StoreH TransT LockT LockU SpaceT WaitT FwdM FwdP FwdC FwdE FwdT BackD BackL BackS BackM BackW BackV
attribute [local go_sem] max2_imax min2_imin max_two min_two
theorem parts_calls (M : Nat → Prop) (sp lp pp dp qp mp : Nat) (blocks frames : Int) (F : FS) (w : World) (h : FwM M w sp lp pp dp qp mp blocks frames F) :
    Calls Tryz.prog 88 #[.pointer (some ⟨sp, 0, none⟩)] w fun e w' => e = .returned (.tuple #[.pointer (some ⟨lp, 0, none⟩), .pointer (some ⟨pp, 0, none⟩), .pointer (some ⟨sp, 8, none⟩), .pointer (some ⟨qp, 0, none⟩)]) ∧ Below w.heap.size w w' := by
  obtain ⟨_, _, k4, k5, _, _, k10, _⟩ := h.cells
  have hspl : sp < w.heap.size := by obtain ⟨kv, tv, b1, _⟩ := h.box; exact heap_lt b1
  clear h
  go_enter Tryz.func88, Tryz.ntmps88
  go_wp2_with fail
  go_quiet (fail)
  have HB := Aside0.mk (pw_below_drewN (Below.refl w.heap.size w) nq)
  go_wp2_with fail
  exact bodyPost_ret (v := .tuple #[.pointer (some ⟨lp, 0, none⟩), .pointer (some ⟨pp, 0, none⟩), .pointer (some ⟨sp, 8, none⟩), .pointer (some ⟨qp, 0, none⟩)]) (by simp [results, Tryz.results88, go_sem]) rfl ⟨rfl, HB.out⟩
end Go.Proofs.YtaplpeoikebedaaGreatDoor.BackU
namespace Go.Proofs.YtaplpeoikebedaaGreatDoor.StoreK
open Go.RowKit See Mem Page PageB PageR PageL Disk DiskW RecD Dirty Dirty2 SysD SysM Wal WalF GoodD PoolG PoolS FlushG Fresh DirtD Pager StoreD PageM StoreF StoreG StoreH StoreI StoreJ
end Go.Proofs.YtaplpeoikebedaaGreatDoor.StoreK
namespace Go.Proofs.YtaplpeoikebedaaGreatDoor.BackA
open Go.RowKit See Mem RecD Dirty Wal WalF PoolG PoolS SysD SysM FlushG Pager StoreD PageM StoreF StoreG StoreH StoreI StoreJ StoreK BackD BackL FwdL
end Go.Proofs.YtaplpeoikebedaaGreatDoor.BackA
namespace Go.Proofs.YtaplpeoikebedaaGreatDoor.BackB
open Go.RowKit Go.Maps YtaplpeoikebedaaGreatDoorW.PrintWords YtaplpeoikebedaaGreatDoorW.PrintLast YtaplpeoikebedaaGreatDoorW.PrintMore
open See Mem Clone Go.Proofs.YtaplpeoikebedaaGreatDoor.Cell Page PageB PageR Disk Dirty Pool2 RecD Rec Wal WalF PoolG PoolS SysD SysM StoreD StoreF StoreH TransT LockT LockU SpaceT WaitT FwdM FwdP FwdC FwdE FwdT FwdB EndT FwdL BackD BackL BackA BackM BackW BackV BackU
attribute [local go_sem] max2_imax min2_imin max_two min_two
end Go.Proofs.YtaplpeoikebedaaGreatDoor.BackB
