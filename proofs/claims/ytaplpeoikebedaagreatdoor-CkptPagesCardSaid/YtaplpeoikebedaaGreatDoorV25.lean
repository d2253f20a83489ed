/- Joined texts: ChainT, FwdM, FwdP, FwdC. No condition but what each says. -/
import Derived.Test.YtaplpeoikebedaaGreatDoorV24
import Derived.Test.YtaplpeoikebedaaGreatDoorV18
import Derived.Test.YtaplpeoikebedaaGreatDoorV21
import Derived.Maps.OwnOps
import Derived.Deep.RegionLaw
set_option maxHeartbeats 8000000
set_option maxRecDepth 100000
set_option linter.unusedVariables false
set_option linter.unusedSimpArgs false
namespace Go.Proofs.YtaplpeoikebedaaGreatDoor.ChainT
open Go.RowKit YtaplpeoikebedaaGreatDoorW.PrintWords YtaplpeoikebedaaGreatDoorW.PrintLast YtaplpeoikebedaaGreatDoorW.PrintMore
open See Mem Clone Go.Proofs.YtaplpeoikebedaaGreatDoor.Cell Page PageR Disk DiskN Pool1 Pool2 Num RecD Rec BlockB Pool3 Wal WalR StoreD
attribute [local go_sem] max2_imax min2_imin max_two min_two
end Go.Proofs.YtaplpeoikebedaaGreatDoor.ChainT
namespace Go.Proofs.YtaplpeoikebedaaGreatDoor.FwdM
open Go.RowKit Go.Maps YtaplpeoikebedaaGreatDoorW.PrintWords YtaplpeoikebedaaGreatDoorW.PrintLast YtaplpeoikebedaaGreatDoorW.PrintMore
open See Mem Page SysD SysM StoreD StoreF TransT LockT LockU SpaceT WaitT
attribute [local go_sem] max2_imax min2_imin max_two min_two
def fwCells (P blocks frames sess : Int) (lp pp : Nat) (kv tv : Value) (most : Int) (qp mp : Nat) : Array Value :=
  #[.int .i64 P, .int .i64 blocks, .int .i64 frames, .int .i64 sess, .pointer (some ⟨lp, 0, none⟩), .pointer (some ⟨pp, 0, none⟩), kv, .map none, tv, .int .i64 most, .pointer (some ⟨qp, 0, none⟩), .map (some mp)]
def OfM (w : World) (mp : Nat) (m : Int) (of : Int → Int) : Prop :=
  ∃ (n : Nat) (D : DataW Unit), w.ownsMap Tryz.prog 3 (plainElem Tryz.prog 3) mp n D ∧ (n : Int) ≤ m ∧ ∀ s : Int, D.atKey (.int .i64 s) (.lit (.int .i64 0)) = .lit (.int .i64 (of s))
structure FwM (M : Nat → Prop) (w : World) (sp lp pp dp qp mp : Nat) (blocks frames : Int) (F : FS) : Prop where
  box : ∃ kv tv, w.heap[sp]? = some (.cells (fwCells F.P blocks frames F.sess lp pp kv tv F.most qp mp) 118 (0, 0)) ∧ LR w kv F.ks ∧ (∀ k, kv.ownBlock = some k → M k) ∧ TR w tv F.ts ∧ (∀ k, tv.ownBlock = some k → M k)
  sys : SysM M w pp lp dp F.S
  room : SpM w qp F.free F.kept
  of : OfM w mp F.most F.of
  low : M sp ∧ M qp ∧ M mp
theorem FwM.cells {M : Nat → Prop} {w : World} {sp lp pp dp qp mp : Nat} {blocks frames : Int} {F : FS} (h : FwM M w sp lp pp dp qp mp blocks frames F) :
    w.cell? ⟨sp, 0, none⟩ = some (.int .i64 F.P) ∧ w.cell? ⟨sp, 3, none⟩ = some (.int .i64 F.sess) ∧ w.cell? ⟨sp, 4, none⟩ = some (.pointer (some ⟨lp, 0, none⟩)) ∧ w.cell? ⟨sp, 5, none⟩ = some (.pointer (some ⟨pp, 0, none⟩)) ∧ w.cell? ⟨sp, 7, none⟩ = some (.map none) ∧ w.cell? ⟨sp, 9, none⟩ = some (.int .i64 F.most) ∧ w.cell? ⟨sp, 10, none⟩ = some (.pointer (some ⟨qp, 0, none⟩)) ∧ w.cell? ⟨sp, 11, none⟩ = some (.map (some mp)) := by
  obtain ⟨kv, tv, hb, _⟩ := h.box
  refine ⟨?_, ?_, ?_, ?_, ?_, ?_, ?_, ?_⟩ <;> simp [World.cell?, hb, fwCells]
theorem zero_int (w : World) : (zeroValue 3).run Tryz.prog w = .ok (.int .i64 0) w := by kernel_rfl
theorem OfM.below {w w' : World} {mp : Nat} {m : Int} {of : Int → Int} (h : OfM w mp m of) (hb : Below w.heap.size w w') : OfM w' mp m of := by
  obtain ⟨n, D, ⟨es, cl, h1, h2⟩, h3⟩ := h
  exact ⟨n, D, ⟨es, cl, (hb.block mp (heap_lt h1)).trans h1, h2⟩, h3⟩
theorem OfM.frm {T : List Nat} {M : Nat → Prop} {w w' : World} {mp : Nat} {m : Int} {of : Int → Int} (h : OfM w mp m of) (hf : Frm T M w w') (h0 : 0 ∉ T) : OfM w' mp m of := by
  obtain ⟨n, D, ⟨es, cl, h1, h2⟩, h3⟩ := h
  exact ⟨n, D, ⟨es, cl, (hf.block mp (heap_lt h1) (fun _ => by unfold tag; rw [h1]; exact h0)).trans h1, h2⟩, h3⟩
theorem FwM.below {M : Nat → Prop} {w w' : World} {sp lp pp dp qp mp : Nat} {blocks frames : Int} {F : FS} (h : FwM M w sp lp pp dp qp mp blocks frames F) (hb : Below w.heap.size w w') : FwM M w' sp lp pp dp qp mp blocks frames F := by
  obtain ⟨⟨kv, tv, b1, b2, b3, b4, b5⟩, s, r, o, l⟩ := h
  exact ⟨⟨kv, tv, (hb.block sp (heap_lt b1)).trans b1, b2.below hb, b3, b4.below hb, b5⟩, s.below hb, r.below hb, o.below hb, l⟩
end Go.Proofs.YtaplpeoikebedaaGreatDoor.FwdM
namespace Go.Proofs.YtaplpeoikebedaaGreatDoor.FwdP
open Go.RowKit Go.Maps YtaplpeoikebedaaGreatDoorW.PrintWords YtaplpeoikebedaaGreatDoorW.PrintLast YtaplpeoikebedaaGreatDoorW.PrintMore
open See Mem Page PageR Disk DiskW RecD Wal Dirty Dirty2 SysD SysM FlushG StoreD StoreF TransT LockT LockU SpaceT WaitT FwdM
structure Kp (M : Nat → Prop) (w w' : World) : Prop where
  os : w'.os = w.os
  tape : w'.tape = w.tape
  output : w'.output = w.output
  size : w.heap.size ≤ w'.heap.size
  block : ∀ k, k < w.heap.size → ¬ M k → w'.heap[k]? = w.heap[k]?
  ent : ∀ k, k < w.heap.size → tag w k = 169 → w'.heap[k]? = w.heap[k]?
theorem Kp.refl (M : Nat → Prop) (w : World) : Kp M w w := ⟨rfl, rfl, rfl, Nat.le_refl _, fun _ _ _ => rfl, fun _ _ _ => rfl⟩
theorem Kp.of_below {M : Nat → Prop} {w w' : World} (h : Below w.heap.size w w') : Kp M w w' := ⟨h.os, h.tape, h.output, h.size, fun k hk _ => h.block k hk, fun k hk _ => h.block k hk⟩
theorem Kp.of_frm {T : List Nat} {M : Nat → Prop} {w w' : World} (h : Frm T M w w') (ht : 169 ∉ T) : Kp M w w' := ⟨h.os, h.tape, h.output, h.size, fun k hk hn => h.block k hk fun hm => absurd hm hn, fun k hk he => h.block k hk fun _ => by rw [he]; exact ht⟩
theorem Kp.wide {M M' : Nat → Prop} {w w' : World} (h : Kp M w w') (hm : ∀ k, M k → M' k) : Kp M' w w' := ⟨h.os, h.tape, h.output, h.size, fun k hk hn => h.block k hk fun h2 => hn (hm k h2), h.ent⟩
theorem Kp.transG {M : Nat → Prop} {w w1 w2 : World} (h : Kp M w w1) (k : Kp (Gr M w w1) w1 w2) : Kp M w w2 :=
  ⟨k.os.trans h.os, k.tape.trans h.tape, k.output.trans h.output, Nat.le_trans h.size k.size, fun i hi hn => (k.block i (Nat.lt_of_lt_of_le hi h.size) (fun hm => by
    rcases hm with hm | ⟨a, _⟩
    · exact hn hm
    · omega)).trans (h.block i hi hn), fun i hi ht => by
    have e := h.ent i hi ht
    exact (k.ent i (Nat.lt_of_lt_of_le hi h.size) (by rw [tag_eq e]; exact ht)).trans e⟩
theorem Kp.trans {M : Nat → Prop} {w w1 w2 : World} (h : Kp M w w1) (k : Kp M w1 w2) : Kp M w w2 := h.transG (k.wide fun _ h => .inl h)
theorem Kp.step {M : Nat → Prop} {w w1 w2 : World} (h : Kp M w w1) (k : Below w1.heap.size w1 w2) : Kp M w w2 := h.trans (.of_below k)
theorem Kp.below {M : Nat → Prop} {w w' : World} {B : Nat} (h : Kp M w w') (hM : ∀ k, M k → B ≤ k) (hB : B ≤ w.heap.size) : Below B w w' :=
  ⟨h.os, h.tape, h.output, h.size, fun k hk => h.block k (by omega) (fun hm => by have := hM k hm; omega)⟩
theorem Kp.at {M : Nat → Prop} {w w' : World} (h : Kp M w w') {k : Nat} {o : Obj} (hk : w.heap[k]? = some o) (hn : ¬ M k) : w'.heap[k]? = some o := (h.block k (heap_lt hk) hn).trans hk
def OutAll (M : Nat → Prop) (a : Nat → Addr) : Prop := ∀ i, i < 18 → ¬ M (gl i) ∧ ¬ M (a i).block
theorem OutAll.k {M : Nat → Prop} {a : Nat → Addr} (h : OutAll M a) (K : List Nat) (hK : ∀ i ∈ K, i < 18) : OutK K M a := fun i hi => h i (hK i hi)
theorem OutAll.gr {M : Nat → Prop} {a : Nat → Addr} {w w' : World} (h : OutAll M a) (hs : SentsAll w a) : OutAll (Gr M w w') a := fun i hi => by
  obtain ⟨h1, h2⟩ := h i hi
  have l1 : gl i < w.heap.size := World.block_lt_of_cell? _ _ (hs.cell i hi)
  obtain ⟨c, t, hr⟩ := hs.row i hi
  have l2 := heap_lt hr
  refine ⟨fun hm => ?_, fun hm => ?_⟩
  · rcases hm with hm | ⟨a1, _⟩
    · exact h1 hm
    · omega
  · rcases hm with hm | ⟨a1, _⟩
    · exact h2 hm
    · omega
theorem OutAll.sub {M M' : Nat → Prop} {a : Nat → Addr} (h : OutAll M a) (hm : ∀ k, M' k → M k) : OutAll M' a := fun i hi => ⟨fun h2 => (h i hi).1 (hm _ h2), fun h2 => (h i hi).2 (hm _ h2)⟩
theorem SentsAll.kp {M : Nat → Prop} {w w1 : World} {a : Nat → Addr} (h : SentsAll w a) (hk : Kp M w w1) (ho : OutAll M a) : SentsAll w1 a := by
  refine ⟨fun i hi => ?_, fun i hi => ?_, h.ne⟩
  · have hc := h.cell i hi
    have hl : gl i < w.heap.size := World.block_lt_of_cell? _ _ hc
    have hb := hk.block (gl i) hl (ho i hi).1
    rw [← hc]
    simp only [World.cell?, hb]
  · obtain ⟨c, t, hr⟩ := h.row i hi
    exact ⟨c, t, hk.at hr (ho i hi).2⟩
def Cut (M : Nat → Prop) (n : Nat) : Nat → Prop := fun k => M k ∧ k < n
theorem SecM.cut {M : Nat → Prop} {w : World} {u v : Value} {s : Sec} (h : SecM M w u v s) : SecM (Cut M w.heap.size) w u v s := by
  refine ⟨h.fast, h.loose, fun k hk => ⟨h.low k hk, ?_⟩⟩
  obtain ⟨vs, h1, _⟩ := h.loose
  obtain ⟨_, c, hc⟩ := ow_block h1 hk
  exact heap_lt hc
theorem DskM.cut {M : Nat → Prop} {w : World} {p : Nat} {d : Dsk} (h : DskM M w p d) : DskM (Cut M w.heap.size) w p d := by
  obtain ⟨g, cap, rs, h⟩ := h
  refine ⟨g, cap, rs, h.box, h.row, h.len, ⟨h.mp, heap_lt h.box⟩, ⟨h.mg, ?_⟩, fun i r s hi hs => SecM.cut (h.secs i r s hi hs), h.apart, h.ok, h.few⟩
  obtain ⟨_, c, hc⟩ := ow_block h.row (k := g) rfl
  exact heap_lt hc
theorem LogM.cut {M : Nat → Prop} {w : World} {lp dp : Nat} {v : Value} {L : Lg} (h : LogM M w lp dp v L) : LogM (Cut M w.heap.size) w lp dp v L :=
  ⟨h.box, h.row, fun k hk => ⟨h.low k hk, by obtain ⟨_, c, hc⟩ := ow_block h.row hk; exact heap_lt hc⟩, ⟨h.mp, heap_lt h.box⟩, h.ok⟩
theorem TabM.cut {M : Nat → Prop} {w : World} {p : Nat} {cs : Array Value} {v : Value} {ds : List (Int × Int)} (h : TabM M w p cs v ds) : TabM (Cut M w.heap.size) w p cs v ds :=
  ⟨h.box, h.at0, h.row, fun k hk => ⟨h.low k hk, by obtain ⟨_, c, hc⟩ := ow_block h.row.1 hk; exact heap_lt hc⟩, ⟨h.mp, heap_lt h.box⟩, h.rise⟩
theorem FrsP.cut {M : Nat → Prop} {w : World} {h : Value} {fs : List Pool1.Fr} {here : List Fp} (x : FrsP M w h fs here) : FrsP (Cut M w.heap.size) w h fs here :=
  ⟨x.frs, x.eq, fun k hk => ⟨x.low k hk, by obtain ⟨_, c, hc⟩ := ow_block x.frs.row hk; exact heap_lt hc⟩⟩
theorem SysM.cut {M : Nat → Prop} {w : World} {pp lp dp : Nat} {S : PSys} (h : SysM M w pp lp dp S) : SysM (Cut M w.heap.size) w pp lp dp S := by
  obtain ⟨h1, ⟨v, h2⟩, ⟨t, hv, fs, h3, h4⟩, h5, h6, h7, h8⟩ := h
  exact ⟨DskM.cut h1, ⟨v, LogM.cut h2⟩, ⟨t, hv, fs, TabM.cut h3, FrsP.cut h4⟩, h5, h6, h7, h8⟩
theorem FwM.cut {M : Nat → Prop} {w : World} {sp lp pp dp qp mp : Nat} {blocks frames : Int} {F : FS} (h : FwM M w sp lp pp dp qp mp blocks frames F) : FwM (Cut M w.heap.size) w sp lp pp dp qp mp blocks frames F := by
  obtain ⟨⟨kv, tv, b1, b2, b3, b4, b5⟩, s, r, o, l1, l2, l3⟩ := h
  refine ⟨⟨kv, tv, b1, b2, fun k hk => ⟨b3 k hk, ?_⟩, b4, fun k hk => ⟨b5 k hk, ?_⟩⟩, SysM.cut s, r, o, ⟨l1, heap_lt b1⟩, ⟨l2, heap_lt r⟩, ⟨l3, ?_⟩⟩
  · obtain ⟨_, c, hc⟩ := ow_block b2.1 hk; exact heap_lt hc
  · obtain ⟨_, c, hc⟩ := ow_block b4.1 hk; exact heap_lt hc
  · obtain ⟨n, D, ⟨es, cl, h1, _⟩, _⟩ := o
    exact heap_lt h1
theorem FwM.mono {M M' : Nat → Prop} {w : World} {sp lp pp dp qp mp : Nat} {blocks frames : Int} {F : FS} (h : FwM M w sp lp pp dp qp mp blocks frames F) (hm : ∀ k, M k → M' k) : FwM M' w sp lp pp dp qp mp blocks frames F := by
  obtain ⟨⟨kv, tv, b1, b2, b3, b4, b5⟩, s, r, o, l1, l2, l3⟩ := h
  exact ⟨⟨kv, tv, b1, b2, fun k hk => hm k (b3 k hk), b4, fun k hk => hm k (b5 k hk)⟩, s.mono hm, r, o, hm _ l1, hm _ l2, hm _ l3⟩
theorem SysM.out {M : Nat → Prop} {w w' : World} {pp lp dp : Nat} {S : PSys} (h : SysM M w pp lp dp S) (hb : ∀ k, k < w.heap.size → (M k ∨ tag w k ∈ dTags ∨ tag w k = 169) → w'.heap[k]? = w.heap[k]?) : SysM M w' pp lp dp S := by
  obtain ⟨h1, ⟨v, h2⟩, ⟨t, hv, fs, h3, h4⟩, h5, h6, h7, h8⟩ := h
  refine ⟨h1.move fun k hk ht => hb k hk (.inr (.inl ht)), ⟨v, h2.move fun k hk _ hm => hb k hk (.inl hm)⟩, ⟨t, hv, fs, ⟨?_, h3.at0, ⟨ow_move h3.row.1 fun k hk => ?_, h3.row.2⟩, h3.low, h3.mp, h3.rise⟩, h4.move fun k hk => ⟨fun _ hm => hb k hk (.inl hm), fun ht => hb k hk (.inr (.inr ht))⟩⟩, h5, h6, h7, h8⟩
  · exact (hb pp (heap_lt h3.box) (.inl h3.mp)).trans h3.box
  · obtain ⟨_, c, hc⟩ := ow_block h3.row.1 hk
    exact hb k (heap_lt hc) (.inl (h3.low k hk))
theorem FwM.out {M : Nat → Prop} {w w' : World} {sp lp pp dp qp mp : Nat} {blocks frames : Int} {F : FS} (h : FwM M w sp lp pp dp qp mp blocks frames F) (hb : ∀ k, k < w.heap.size → (M k ∨ tag w k ∈ dTags ∨ tag w k = 169) → w'.heap[k]? = w.heap[k]?) : FwM M w' sp lp pp dp qp mp blocks frames F := by
  obtain ⟨⟨kv, tv, b1, b2, b3, b4, b5⟩, s, r, o, l1, l2, l3⟩ := h
  refine ⟨⟨kv, tv, (hb sp (heap_lt b1) (.inl l1)).trans b1, ⟨ow_move b2.1 fun k hk => ?_, b2.2⟩, b3, ⟨ow_move b4.1 fun k hk => ?_, b4.2⟩, b5⟩, SysM.out s hb, (hb qp (heap_lt r) (.inl l2)).trans r, ?_, l1, l2, l3⟩
  · obtain ⟨_, c, hc⟩ := ow_block b2.1 hk; exact hb k (heap_lt hc) (.inl (b3 k hk))
  · obtain ⟨_, c, hc⟩ := ow_block b4.1 hk; exact hb k (heap_lt hc) (.inl (b5 k hk))
  · obtain ⟨n, D, ⟨es, cl, h1, h2⟩, h3⟩ := o
    exact ⟨n, D, ⟨es, cl, (hb mp (heap_lt h1) (.inl l3)).trans h1, h2⟩, h3⟩
theorem OfM.up {w : World} {mp : Nat} {m m' : Int} {of : Int → Int} (h : OfM w mp m of) (hm : m ≤ m') : OfM w mp m' of := by
  obtain ⟨n, D, h1, h2, h3⟩ := h
  exact ⟨n, D, h1, Int.le_trans h2 hm, h3⟩
def FwPost (M : Nat → Prop) (sp lp pp dp qp mp : Nat) (blocks frames : Int) (F : FS) (w w' : World) : Prop := FwM (Gr M w w') w' sp lp pp dp qp mp blocks frames F ∧ Kp M w w'
section
variable {M : Nat → Prop} {sp lp pp dp qp mp : Nat} {blocks frames : Int}
theorem FwPost.refl {F : FS} {w : World} (h : FwM M w sp lp pp dp qp mp blocks frames F) : FwPost M sp lp pp dp qp mp blocks frames F w w := ⟨FwM.mono h fun _ h => .inl h, .refl _ _⟩
theorem FwPost.trans {F F' : FS} {w w1 w2 : World} (h : FwPost M sp lp pp dp qp mp blocks frames F w w1) (k : FwM (Gr M w w1) w1 sp lp pp dp qp mp blocks frames F → FwPost (Gr M w w1) sp lp pp dp qp mp blocks frames F' w1 w2) : FwPost M sp lp pp dp qp mp blocks frames F' w w2 := by
  obtain ⟨a, b⟩ := h
  obtain ⟨c, d⟩ := k a
  exact ⟨FwM.mono c fun j hj => Gr.trans b.size d.size hj, b.transG d⟩
theorem FwPost.step {F : FS} {w w1 w2 : World} (h : FwPost M sp lp pp dp qp mp blocks frames F w w1) (k : Below w1.heap.size w1 w2) : FwPost M sp lp pp dp qp mp blocks frames F w w2 :=
  ⟨FwM.mono (h.1.below k) fun j hj => Gr.grow k.size hj, h.2.step k⟩
theorem FwPost.back {F : FS} {w w1 w2 : World} (h : FwPost M sp lp pp dp qp mp blocks frames F w1 w2) (k : Below w.heap.size w w1) : FwPost M sp lp pp dp qp mp blocks frames F w w2 := by
  refine ⟨FwM.mono h.1 fun j hj => ?_, (Kp.of_below k).trans h.2⟩
  rcases hj with hj | ⟨a, b⟩
  · exact .inl hj
  · exact .inr ⟨Nat.le_trans k.size a, b⟩
theorem FwM.txs {F : FS} {w : World} (h : FwM M w sp lp pp dp qp mp blocks frames F) (hr : Rising (kvT F.ts)) : ∃ cs tv, TxM M w sp 8 118 cs tv F.ts F.most ∧ ∀ ts' most' w', F.most ≤ most' → TxPost M sp 8 118 cs ts' most' w w' → FwPost M sp lp pp dp qp mp blocks frames { F with ts := ts', most := most' } w w' := by
  obtain ⟨⟨kv, tv, b1, b2, b3, b4, b5⟩, s, r, o, l1, l2, l3⟩ := h
  refine ⟨_, tv, ⟨b1, rfl, rfl, b4, b5, l1, hr, by decide⟩, fun ts' most' w' hmm ⟨v', t, hf⟩ => ⟨⟨⟨kv, v', t.box, b2.frm hf (by decide), fun k hk => .inl (b3 k hk), t.row, t.low⟩, ?_, r.frm hf (by decide), OfM.up (o.frm hf (by decide)) hmm, .inl l1, .inl l2, .inl l3⟩, .of_frm hf (by decide)⟩⟩
  obtain ⟨h1, ⟨v, h2⟩, ⟨u, hv, fs, h3, h4⟩, h5, h6, h7, h8⟩ := s
  exact SysM.mono ⟨h1.frm hf (by decide), ⟨v, h2.frm hf (by decide)⟩, ⟨u, hv, fs, TabM.frm h3 hf (by decide) (by decide), h4.frm hf (by decide) (by decide)⟩, h5, h6, h7, h8⟩ fun _ h => .inl h
theorem FwM.lks {F : FS} {w : World} (h : FwM M w sp lp pp dp qp mp blocks frames F) : ∃ cs kv, LkM M w sp 6 118 cs kv F.ks ∧ ∀ ks' w', LkPost M sp 6 118 cs ks' w w' → FwPost M sp lp pp dp qp mp blocks frames { F with ks := ks' } w w' := by
  obtain ⟨⟨kv, tv, b1, b2, b3, b4, b5⟩, s, r, o, l1, l2, l3⟩ := h
  refine ⟨_, kv, ⟨b1, rfl, b2, b3, l1, by decide⟩, fun ks' w' ⟨v', t, hf⟩ => ⟨⟨⟨v', tv, t.box, t.row, t.low, b4.frm hf (by decide), fun k hk => .inl (b5 k hk)⟩, ?_, r.frm hf (by decide), o.frm hf (by decide), .inl l1, .inl l2, .inl l3⟩, .of_frm hf (by decide)⟩⟩
  obtain ⟨h1, ⟨v, h2⟩, ⟨u, hv, fs, h3, h4⟩, h5, h6, h7, h8⟩ := s
  exact SysM.mono ⟨h1.frm hf (by decide), ⟨v, h2.frm hf (by decide)⟩, ⟨u, hv, fs, TabM.frm h3 hf (by decide) (by decide), h4.frm hf (by decide) (by decide)⟩, h5, h6, h7, h8⟩ fun _ h => .inl h
theorem FwM.spc {F : FS} {w : World} (h : FwM M w sp lp pp dp qp mp blocks frames F) {fr kp : Int} {w' : World} (hs : SpM w' qp fr kp) (hf : Frm [193] M w w') : FwPost M sp lp pp dp qp mp blocks frames { F with free := fr, kept := kp } w w' := by
  obtain ⟨⟨kv, tv, b1, b2, b3, b4, b5⟩, s, r, o, l1, l2, l3⟩ := h
  refine ⟨⟨⟨kv, tv, hf.at b1 (.inl (by decide)), b2.frm hf (by decide), fun k hk => .inl (b3 k hk), b4.frm hf (by decide), fun k hk => .inl (b5 k hk)⟩, ?_, hs, o.frm hf (by decide), .inl l1, .inl l2, .inl l3⟩, .of_frm hf (by decide)⟩
  obtain ⟨h1, ⟨v, h2⟩, ⟨u, hv, fs, h3, h4⟩, h5, h6, h7, h8⟩ := s
  exact SysM.mono ⟨h1.frm hf (by decide), ⟨v, h2.frm hf (by decide)⟩, ⟨u, hv, fs, TabM.frm h3 hf (by decide) (by decide), h4.frm hf (by decide) (by decide)⟩, h5, h6, h7, h8⟩ fun _ h => .inl h
theorem FwM.mp_ {F : FS} {w : World} (h : FwM M w sp lp pp dp qp mp blocks frames F) {of : Int → Int} {w' : World} (ho : OfM w' mp F.most of) (hg : w.grownBy w' (some mp)) : FwPost M sp lp pp dp qp mp blocks frames { F with of := of } w w' := by
  obtain ⟨⟨kv, tv, b1, b2, b3, b4, b5⟩, s, r, o, l1, l2, l3⟩ := h
  have hm0 : tag w mp = 0 := by
    obtain ⟨n, D, ⟨es, cl, h1, _⟩, _⟩ := o
    unfold tag
    rw [h1]
  have hf : Frm [0] M w w' := (Frm.refl _ _ w).grown hg fun k hk hlt => by cases hk; exact ⟨l3, by rw [hm0]; exact List.mem_cons_self⟩
  refine ⟨⟨⟨kv, tv, hf.at b1 (.inl (by decide)), b2.frm hf (by decide), fun k hk => .inl (b3 k hk), b4.frm hf (by decide), fun k hk => .inl (b5 k hk)⟩, ?_, r.frm hf (by decide), ho, .inl l1, .inl l2, .inl l3⟩, .of_frm hf (by decide)⟩
  obtain ⟨h1, ⟨v, h2⟩, ⟨u, hv, fs, h3, h4⟩, h5, h6, h7, h8⟩ := s
  exact SysM.mono ⟨h1.frm hf (by decide), ⟨v, h2.frm hf (by decide)⟩, ⟨u, hv, fs, TabM.frm h3 hf (by decide) (by decide), h4.frm hf (by decide) (by decide)⟩, h5, h6, h7, h8⟩ fun _ h => .inl h
theorem FwM.sy {F : FS} {w : World} (h : FwM M w sp lp pp dp qp mp blocks frames F) {S' : PSys} {w' : World} (hs : SysM (Gr M w w') w' pp lp dp S') (hf : Frm sTurn M w w') : FwPost M sp lp pp dp qp mp blocks frames { F with S := S' } w w' := by
  obtain ⟨⟨kv, tv, b1, b2, b3, b4, b5⟩, s, r, o, l1, l2, l3⟩ := h
  exact ⟨⟨⟨kv, tv, hf.at b1 (.inl (by decide)), b2.frm hf (by decide), fun k hk => .inl (b3 k hk), b4.frm hf (by decide), fun k hk => .inl (b5 k hk)⟩, hs, r.frm hf (by decide), o.frm hf (by decide), .inl l1, .inl l2, .inl l3⟩, .of_frm hf (by decide)⟩
theorem FwM.lg {F : FS} {w : World} (h : FwM M w sp lp pp dp qp mp blocks frames F) {L' : Lg} {w' : World} (hl : ∃ v, LogM (Gr M w w') w' lp dp v L') (hf : Frm lTurn M w w') : FwPost M sp lp pp dp qp mp blocks frames { F with S := { F.S with l := L' } } w w' := by
  obtain ⟨a, b⟩ := sys_log h.sys hl hf
  exact FwM.sy h a b
end
theorem p2_kp {M : Nat → Prop} {w w' : World} {v : Value} {es : List (Int × Int)} (h : P2 w 169 v es) (hk : Kp M w w') : P2 w' 169 v es :=
  ⟨ow_move h.1 fun k hj => by
    obtain ⟨_, c, hc⟩ := ow_block h.1 hj
    exact hk.ent k (heap_lt hc) (tag_of hc), h.2⟩
structure LB (M : Nat → Prop) (sp lp pp dp qp mp : Nat) (blocks frames : Int) (F : FS) (w V0 : World) (R : Nat → Prop) (w3 : World) : Prop where
  f : FwM R w3 sp lp pp dp qp mp blocks frames F
  r : ∀ k, R k → Gr M w w3 k
  nn : ∀ j, w.heap.size ≤ j → j < V0.heap.size → ¬ R j
  k : Kp M w w3
  loc : ∀ j, w.heap.size ≤ j → j < V0.heap.size → w3.heap[j]? = V0.heap[j]?
  sz : V0.heap.size ≤ w3.heap.size
section
variable {M : Nat → Prop} {sp lp pp dp qp mp : Nat} {blocks frames : Int} {F F' : FS} {w V0 w3 w4 : World} {R : Nat → Prop}
theorem LB.start (h : FwM M w sp lp pp dp qp mp blocks frames F) (hb : Below w.heap.size w V0) : LB M sp lp pp dp qp mp blocks frames F w V0 (Cut M w.heap.size) V0 :=
  ⟨(FwM.cut h).below hb, fun k hk => .inl hk.1, fun j hj _ hc => by have := hc.2; omega, .of_below hb, fun _ _ _ => rfl, Nat.le_refl _⟩
theorem LB.below (h : LB M sp lp pp dp qp mp blocks frames F w V0 R w3) (hb : Below w3.heap.size w3 w4) : LB M sp lp pp dp qp mp blocks frames F w V0 R w4 :=
  ⟨h.f.below hb, fun k hk => Gr.grow hb.size (h.r k hk), h.nn, h.k.step hb, fun j h1 h2 => (hb.block j (Nat.lt_of_lt_of_le h2 h.sz)).trans (h.loc j h1 h2), Nat.le_trans h.sz hb.size⟩
theorem LB.step (h : LB M sp lp pp dp qp mp blocks frames F w V0 R w3) (hp : FwPost R sp lp pp dp qp mp blocks frames F' w3 w4) : LB M sp lp pp dp qp mp blocks frames F' w V0 (Gr R w3 w4) w4 := by
  obtain ⟨f, k⟩ := hp
  have s1 := h.k.size
  have s2 := h.sz
  have s3 := k.size
  refine ⟨f, fun j hj => ?_, fun j h1 h2 hc => ?_, ?_, fun j h1 h2 => (k.block j (by omega) (h.nn j h1 h2)).trans (h.loc j h1 h2), by omega⟩
  · rcases hj with hj | ⟨c1, c2⟩
    · exact Gr.grow s3 (h.r j hj)
    · exact .inr ⟨by omega, c2⟩
  · rcases hc with hc | ⟨c1, _⟩
    · exact h.nn j h1 h2 hc
    · omega
  · refine ⟨k.os.trans h.k.os, k.tape.trans h.k.tape, k.output.trans h.k.output, Nat.le_trans s1 s3, fun j hj hn => ?_, fun j hj ht => ?_⟩
    · refine (k.block j (by omega) fun hc => ?_).trans (h.k.block j hj hn)
      rcases h.r j hc with hc | ⟨c1, _⟩
      · exact hn hc
      · omega
    · have e := h.k.ent j hj ht
      exact (k.ent j (by omega) (by rw [tag_eq e]; exact ht)).trans e
theorem LB.post (h : LB M sp lp pp dp qp mp blocks frames F w V0 R w3) : FwPost M sp lp pp dp qp mp blocks frames F w w3 := ⟨FwM.mono h.f h.r, h.k⟩
theorem LB.at (h : LB M sp lp pp dp qp mp blocks frames F w V0 R w3) {j : Nat} {o : Obj} (hj : V0.heap[j]? = some o) (h1 : w.heap.size ≤ j) : w3.heap[j]? = some o := (h.loc j h1 (heap_lt hj)).trans hj
theorem LB.sents {a : Nat → Addr} (h : LB M sp lp pp dp qp mp blocks frames F w V0 R w3) (hs : SentsAll w a) (hO : OutAll M a) : SentsAll w3 a ∧ OutAll R a :=
  ⟨SentsAll.kp hs h.k hO, OutAll.sub (OutAll.gr hO hs) h.r⟩
end
end Go.Proofs.YtaplpeoikebedaaGreatDoor.FwdP
namespace Go.Proofs.YtaplpeoikebedaaGreatDoor.FwdC
open Go.RowKit Go.Maps YtaplpeoikebedaaGreatDoorW.PrintWords YtaplpeoikebedaaGreatDoorW.PrintLast YtaplpeoikebedaaGreatDoorW.PrintMore
open See Mem Page Dirty SysD SysM StoreD StoreF TransT LockT LockU SpaceT WaitT FwdM
attribute [local go_sem] max2_imax min2_imin max_two min_two
theorem OfM.look {w : World} {mp : Nat} {m : Int} {of : Int → Int} (h : OfM w mp m of) {s : Int} (h0 : -9223372036854775808 ≤ s) (h1 : s ≤ 9223372036854775807) :
    (Instr.lookup 116 (.map (some mp)) (.int .i64 s) false).run Tryz.prog w = .ok (.int .i64 (of s)) w := by
  obtain ⟨n, D, hown, hn, hat⟩ := h
  obtain ⟨c, hrun, hc, _⟩ := hown.lookup_int (int_keyed Tryz.underlying3) Tryz.underlying116 Tryz.underlying3 (zero_int w) (keyOf_int_mk Tryz.underlying3 (wf64 h0 h1))
  rw [hat s] at hc
  have hcc : of s = c := by injection hc with hc; injection hc
  rw [hcc]
  exact hrun
def txPut (w : World) (b : Nat) (t : Tx) : World := (((w.setCell ⟨b, 0, none⟩ (.int .i64 t.id)).setCell ⟨b, 1, none⟩ (.int .i64 t.state)).setCell ⟨b, 2, none⟩ (.int .i64 t.last)).setCell ⟨b, 3, none⟩ (.int .i64 t.next)
theorem txPut_heap {w : World} {b : Nat} {x0 x1 x2 x3 : Value} (h : w.heap[b]? = some (.cells #[x0, x1, x2, x3] 102 (0, 0))) (t : Tx) : (txPut w b t).heap[b]? = some (.cells #[.int .i64 t.id, .int .i64 t.state, .int .i64 t.last, .int .i64 t.next] 102 (0, 0)) := by
  have h0 := heap_setCell_same w b 0 _ _ (.int .i64 t.id) h
  have h1 := heap_setCell_same _ b 1 _ _ (.int .i64 t.state) h0
  have h2 := heap_setCell_same _ b 2 _ _ (.int .i64 t.last) h1
  have h3 := heap_setCell_same _ b 3 _ _ (.int .i64 t.next) h2
  have e : ((((#[x0, x1, x2, x3] : Array Value).setIfInBounds 0 (.int .i64 t.id)).setIfInBounds 1 (.int .i64 t.state)).setIfInBounds 2 (.int .i64 t.last)).setIfInBounds 3 (.int .i64 t.next) = #[.int .i64 t.id, .int .i64 t.state, .int .i64 t.last, .int .i64 t.next] := by simp
  rw [e] at h3
  exact h3
theorem txPut_other {w : World} {b k : Nat} (h : k ≠ b) (t : Tx) : (txPut w b t).heap[k]? = w.heap[k]? := by
  unfold txPut
  rw [Below.heap_setCell _ _ _ _ h, Below.heap_setCell _ _ _ _ h, Below.heap_setCell _ _ _ _ h, Below.heap_setCell _ _ _ _ h]
theorem txPut_below {B : Nat} {w w1 : World} {b : Nat} (h : Below B w w1) (hb : B ≤ b) (t : Tx) : Below B w (txPut w1 b t) := (((h.setCell hb _).setCell hb _).setCell hb _).setCell hb _
def z4 : Obj := .cells #[.int .i64 0, .int .i64 0, .int .i64 0, .int .i64 0] 102
theorem called_calls (M : Nat → Prop) (sp lp pp dp qp mp : Nat) (blocks frames : Int) (F : FS) (n : Int) (w : World) (h : FwM M w sp lp pp dp qp mp blocks frames F) (h0 : 0 ≤ n) (h1 : n < F.sess) (h2 : F.sess ≤ 1000) (hx : thas F.ts (F.of n) = true) (hr : Rising (kvT F.ts)) :
    Calls Tryz.prog 61 #[.pointer (some ⟨sp, 0, none⟩), .int .i64 n] w fun e w' => e = .returned (.tuple #[txV (tget F.ts (F.of n)), .nilIface]) ∧ Below w.heap.size w w' := by
  have HF := Aside0.mk (fun (W : World) (hb : Below w.heap.size w W) => h.below hb)
  obtain ⟨kv, tv, b1, _, _, b4, _⟩ := h.box
  have HG := Aside0.mk (fun (W : World) (hb : Below w.heap.size w W) => by
    have := tget_calls sp 8 tv F.ts (F.of n) W (b4.below hb) hr (pw_cell_below hb (show w.cell? ⟨sp, 8, none⟩ = some tv by simp [World.cell?, b1, fwCells]))
    rw [hx] at this
    exact this)
  have hspl := heap_lt b1
  obtain ⟨x, hxx⟩ : ∃ x, tget F.ts (F.of n) = x := ⟨_, rfl⟩
  obtain ⟨c, hc⟩ : ∃ c, F.of n = c := ⟨_, rfl⟩
  rw [hxx] at HG ⊢
  rw [hc] at HG
  obtain ⟨sess, hsess⟩ : ∃ s, F.sess = s := ⟨_, rfl⟩
  rw [hsess] at h1 h2
  obtain ⟨W, hW⟩ : ∃ W, w.alloc z4 = W := ⟨_, rfl⟩
  have hWs : W.heap.size = w.heap.size + 1 := by rw [← hW]; show (w.heap.push _).size = _; rw [Array.size_push]
  have hBW : Below w.heap.size w W := by rw [← hW]; exact below_alloc (Below.refl _ _) _
  have hlk := OfM.look (HF.out W hBW).of (s := n) (by omega) (by omega)
  have hlk2 := OfM.look (HF.out (W.alloc z4) (below_alloc hBW _)).of (s := n) (by omega) (by omega)
  have hlk3 := OfM.look (HF.out W.drew (below_drew1 hBW)).of (s := n) (by omega) (by omega)
  have hlk4 := OfM.look (HF.out (W.alloc z4).drew (below_drew1 (below_alloc hBW _))).of (s := n) (by omega) (by omega)
  have hlk5 := OfM.look (HF.out (W.drew.alloc z4) (below_alloc (below_drew1 hBW) _)).of (s := n) (by omega) (by omega)
  rw [hc] at hlk hlk2 hlk3 hlk4 hlk5
  obtain ⟨_, k3, _, _, k7, _, _, k11⟩ := (HF.out W hBW).cells
  obtain ⟨_, _, _, _, _, _, _, j11⟩ := (HF.out (W.alloc z4) (below_alloc hBW _)).cells
  rw [hsess] at k3
  have hR0 : W.heap[w.heap.size]? = some z4 := by rw [← hW]; exact heap_alloc_new _ _
  have HW := Aside0.mk hW
  have HBW := Aside0.mk hBW
  have HR0 := Aside0.mk hR0
  have hd1 : decide (n < 0) = false := decide_eq_false (by omega)
  have hd2 : decide (sess ≤ n) = false := decide_eq_false (by omega)
  have hspW : sp < W.heap.size := by omega
  have HWS := Aside0.mk hWs
  clear h b1 b4 hx hr hxx hc hsess hW hBW hR0 hWs
  go_enter Tryz.func61, Tryz.ntmps61
  go_wp2_with fail
  rw [show w.alloc (.cells #[.int .i64 0, .int .i64 0, .int .i64 0, .int .i64 0] 102) = W from HW.out]
  refine (wclear_nil sp 7 n _ k7 (by omega) (by omega)).mono ?_
  rintro e w' ⟨rfl, rfl⟩
  have HG2 := Aside0.mk (fun (V : World) (hb : Below w.heap.size w V) (b : Nat) (o : Obj) (hx : V.heap[b]? = some o) => (HG.out V hb).mono (fun e w' h => (⟨h.1, h.2, (h.2.block b (heap_lt hx)).trans hx⟩ : e = .returned (.tuple #[txV x, .bool true]) ∧ Below V.heap.size V w' ∧ w'.heap[b]? = some o)))
  obtain ⟨xi, xs, xl, xn⟩ := x
  simp only [txV, z4] at *
  go_wp2_with fail
  go_region_law (first
    | (go_simp; go_at_call 113; refine (HG2.out _ (by repeat (first | exact HBW.out | apply below_drew1 | apply below_alloc)) W.heap.size _ (by exact heap_alloc_new W _)).mono ?_; rintro e w2 ⟨rfl, hb2, hbo⟩; obtain ⟨o0, o1, o2, o3, g0, g1, g2, g3⟩ := tx_cells hbo)
    | (go_simp; go_at_call 113; refine (HG.out _ (by repeat (first | exact HBW.out | apply below_drew1 | apply below_alloc))).mono ?_; rintro e w2 ⟨rfl, hb2⟩))
  all_goals
    have hR2 : w2.heap[w.heap.size]? = some (.cells #[.int .i64 0, .int .i64 0, .int .i64 0, .int .i64 0] 102 (0, 0)) := by
      first
        | exact (hb2.block w.heap.size (by show _ < (W.heap.push _).size; rw [Array.size_push, HWS.out]; omega)).trans ((Below.heap_alloc W _ _ (by rw [HWS.out]; omega)).trans HR0.out)
        | exact (hb2.block w.heap.size (by show _ < W.heap.size; rw [HWS.out]; omega)).trans HR0.out
    have hB2 : Below w.heap.size w w2 := below_step (by repeat (first | exact HBW.out | apply below_drew1 | apply below_alloc)) hb2
    obtain ⟨r0, r1, r2, r3, s0, s1, s2, s3⟩ := tx_cells hR2
    have hlt := heap_lt hR2
    have hne1 : W.heap.size ≠ w.heap.size := by have := HWS.out; omega
    have hne2 : w.heap.size ≠ W.heap.size := by have := HWS.out; omega
    have HB2 := Aside0.mk hB2
    have hle : w.heap.size ≤ W.heap.size := by have := HWS.out; omega
    clear hb2 hB2 hlk hlk2 hlk3 hlk4 hlk5
    go_wp2_with fail
    first
      | (have hcc : (((((((w2.setCell ⟨W.heap.size, 0, none⟩ (.int .i64 xi)).setCell ⟨W.heap.size, 1, none⟩ (.int .i64 xs)).setCell ⟨W.heap.size, 2, none⟩ (.int .i64 xl)).setCell ⟨W.heap.size, 3, none⟩ (.int .i64 xn)).setCell ⟨w.heap.size, 0, none⟩ (.int .i64 xi)).setCell ⟨w.heap.size, 1, none⟩ (.int .i64 xs)).setCell ⟨w.heap.size, 2, none⟩ (.int .i64 xl)).setCell ⟨w.heap.size, 3, none⟩ (.int .i64 xn) = txPut (txPut w2 W.heap.size ⟨xi, xs, xl, xn⟩) w.heap.size ⟨xi, xs, xl, xn⟩ := rfl
         rw [hcc]
         have hp := txPut_heap ((txPut_other hne2 ⟨xi, xs, xl, xn⟩).trans hR2) ⟨xi, xs, xl, xn⟩
         have hbw := txPut_below (txPut_below HB2.out hle ⟨xi, xs, xl, xn⟩) (Nat.le_refl _) ⟨xi, xs, xl, xn⟩
         obtain ⟨wx, hwx⟩ : ∃ wx, txPut (txPut w2 W.heap.size ⟨xi, xs, xl, xn⟩) w.heap.size ⟨xi, xs, xl, xn⟩ = wx := ⟨_, rfl⟩
         rw [hwx] at hp hbw ⊢)
      | (have hcc : (((w2.setCell ⟨w.heap.size, 0, none⟩ (.int .i64 xi)).setCell ⟨w.heap.size, 1, none⟩ (.int .i64 xs)).setCell ⟨w.heap.size, 2, none⟩ (.int .i64 xl)).setCell ⟨w.heap.size, 3, none⟩ (.int .i64 xn) = txPut w2 w.heap.size ⟨xi, xs, xl, xn⟩ := rfl
         rw [hcc]
         have hp := txPut_heap hR2 ⟨xi, xs, xl, xn⟩
         have hbw := txPut_below HB2.out (Nat.le_refl _) ⟨xi, xs, xl, xn⟩
         obtain ⟨wx, hwx⟩ : ∃ wx, txPut w2 w.heap.size ⟨xi, xs, xl, xn⟩ = wx := ⟨_, rfl⟩
         rw [hwx] at hp hbw ⊢)
    have hlx := heap_lt hp
    obtain ⟨y0, y1, y2, y3, _, _, _, _⟩ := tx_cells hp
    have HBX := Aside0.mk hbw
    clear hcc hwx hp hbw r0 r1 r2 r3 s0 s1 s2 s3 hR2
    refine bodyPost_ret (v := .tuple #[.agg #[.int .i64 xi, .int .i64 xs, .int .i64 xl, .int .i64 xn], .nilIface]) ?_ ?_ ?_
    case refine_2 => rfl
    case refine_3 => exact ⟨rfl, by repeat (first | exact HBX.out | apply below_drew1 | apply below_alloc)⟩
    simp [results, Tryz.results61, go_sem, y0, y1, y2, y3, hlx]
end Go.Proofs.YtaplpeoikebedaaGreatDoor.FwdC
