/- Joined texts: FwdT, FwdG, First17, RefN. No condition but what each says. -/
import Derived.Test.YtaplpeoikebedaaGreatDoorV25
import Derived.Test.YtaplpeoikebedaaGreatDoorV27
import Derived.Test.YtaplpeoikebedaaGreatDoorV26
import Derived.Test.YtaplpeoikebedaaGreatDoorV17
import Derived.Deep.DeepCutAuto
import Derived.BigQuiet
import Derived.Test.YtaplpeoikebedaaGreatDoorV6
import Derived.Deep.RegionLaw
set_option maxHeartbeats 8000000
set_option maxRecDepth 100000
set_option linter.unusedVariables false
set_option linter.unusedSimpArgs false
namespace Go.Proofs.YtaplpeoikebedaaGreatDoor.FwdT
open Go.RowKit Go.Maps YtaplpeoikebedaaGreatDoorW.PrintWords YtaplpeoikebedaaGreatDoorW.PrintLast YtaplpeoikebedaaGreatDoorW.PrintMore
open See Mem Page Disk DiskN DiskW RecD Dirty Wal WalF SysD SysM PoolG Pager StoreD PageM StoreF StoreI StoreJ TransT LockT LockU SpaceT WaitT FwdM FwdP FwdC PageO
attribute [local go_sem] max2_imax min2_imin max_two min_two
theorem place_at (key P q : Int) (h0 : 0 ≤ key) (h1 : key < 1048576) (h2 : 1 ≤ P) (h3 : P ≤ 1000) (hq : placeOf key P = q) (w : World) :
    Calls Tryz.prog 125 #[.int .i64 key, .int .i64 P] w fun e w' => e = .returned (.int .i64 q) ∧ w = w' := by
  subst hq; exact place_calls key P h0 h1 h2 h3 w
theorem neq_nil (x : Addr) (w : World) : (binOp .neq 37 .nilIface (.iface 333 (.pointer (some x)))).run Tryz.prog w = .ok (.bool true) w := by kernel_rfl
def pgPut (w : World) (b : Nat) (l : Int) (v : Value) : World := (w.setCell ⟨b, 0, none⟩ (.int .i64 l)).setCell ⟨b, 1, none⟩ v
theorem pgPut_heap {w : World} {b : Nat} {x0 x1 : Value} (h : w.heap[b]? = some (.cells #[x0, x1] 74 (0, 0))) (l : Int) (v : Value) : (pgPut w b l v).heap[b]? = some (.cells #[.int .i64 l, v] 74 (0, 0)) := by
  have h0 := heap_setCell_same w b 0 _ _ (.int .i64 l) h
  have h1 := heap_setCell_same _ b 1 _ _ v h0
  have e : (((#[x0, x1] : Array Value).setIfInBounds 0 (.int .i64 l)).setIfInBounds 1 v) = #[.int .i64 l, v] := by simp
  rw [e] at h1
  exact h1
theorem pgPut_other {w : World} {b k : Nat} (h : k ≠ b) (l : Int) (v : Value) : (pgPut w b l v).heap[k]? = w.heap[k]? := by
  unfold pgPut
  rw [Below.heap_setCell _ _ _ _ h, Below.heap_setCell _ _ _ _ h]
theorem pgPut_below {B : Nat} {w w1 : World} {b : Nat} (h : Below B w w1) (hb : B ≤ b) (l : Int) (v : Value) : Below B w (pgPut w1 b l v) := (h.setCell hb _).setCell hb _
theorem pg_cells {w : World} {b : Nat} {x0 x1 : Value} (h : w.heap[b]? = some (.cells #[x0, x1] 74 (0, 0))) :
    w.frozen? ⟨b, 0, none⟩ = false ∧ w.frozen? ⟨b, 1, none⟩ = false ∧ w.cell? ⟨b, 0, none⟩ = some x0 ∧ w.cell? ⟨b, 1, none⟩ = some x1 := by
  refine ⟨?_, ?_, ?_, ?_⟩ <;> simp [World.frozen?, World.cell?, h]
theorem FwM.but {R : Nat → Prop} {w w' : World} {sp lp pp dp qp mp : Nat} {blocks frames : Int} {F : FS} (h : FwM R w sp lp pp dp qp mp blocks frames F) {b : Nat} (hb : ∀ k, k ≠ b → w'.heap[k]? = w.heap[k]?) (hn : ¬ R b) (ht : tag w b ∉ dTags ∧ tag w b ≠ 169) : FwM R w' sp lp pp dp qp mp blocks frames F :=
  FwM.out h fun k hk hh => hb k fun e => by
    subst e
    rcases hh with hh | hh | hh
    · exact hn hh
    · exact ht.1 hh
    · exact ht.2 hh
theorem p2_but {w w' : World} {v : Value} {es : List (Int × Int)} (h : P2 w 169 v es) {b : Nat} (hb : ∀ k, k ≠ b → w'.heap[k]? = w.heap[k]?) (ht : tag w b ≠ 169) : P2 w' 169 v es :=
  ⟨ow_move h.1 fun k hk => hb k fun e => by
    subst e
    obtain ⟨_, c, hc⟩ := ow_block h.1 hk
    exact ht (tag_of hc), h.2⟩
theorem Kp.then {M : Nat → Prop} {w w1 w2 : World} (h : Kp M w w1) (k : Below w.heap.size w1 w2) : Kp M w w2 :=
  ⟨k.os.trans h.os, k.tape.trans h.tape, k.output.trans h.output, Nat.le_trans h.size k.size, fun i hi hn => (k.block i hi).trans (h.block i hi hn), fun i hi ht => (k.block i hi).trans (h.ent i hi ht)⟩
def z2p : Obj := .cells #[.int .i64 0, .slice none 0 0] 74
def TakesPost (M : Nat → Prop) (sp lp pp dp qp mp : Nat) (blocks frames : Int) (F : FS) (n key hint : Int) (w : World) (e : Ending) (w' : World) : Prop :=
  ∃ sl, e = .returned (.tuple #[txV (tget F.ts (F.of n)), .agg #[.int .i64 (cur F.S (placeOf key F.P)).1, sl], .nilIface]) ∧ P2 w' 169 sl (cur F.S (placeOf key F.P)).2 ∧ FwPost M sp lp pp dp qp mp blocks frames (takesF F n key 2 hint) w w'
structure TB (M : Nat → Prop) (sp lp pp dp qp mp : Nat) (blocks frames : Int) (F : FS) (es : List (Int × Int)) (w : World) (bx : Nat) (X : Obj) (R : Nat → Prop) (sl : Value) (w3 : World) : Prop where
  p : P2 w3 169 sl es
  f : FwM R w3 sp lp pp dp qp mp blocks frames F
  r : ∀ k, R k → Gr M w w3 k
  n0 : ¬ R w.heap.size
  n1 : ¬ R (w.heap.size + 1)
  k : Kp M w w3
  b0 : w3.heap[w.heap.size]? = some z4
  b1 : w3.heap[w.heap.size + 1]? = some z2p
  bx : w3.heap[bx]? = some X
section
variable {M : Nat → Prop} {sp lp pp dp qp mp : Nat} {blocks frames : Int} {F F2 : FS} {es : List (Int × Int)} {w : World} {bx : Nat} {X : Obj} {R : Nat → Prop} {sl : Value} {w3 w4 : World}
theorem TB.below (h : TB M sp lp pp dp qp mp blocks frames F es w bx X R sl w3) (hb : Below w3.heap.size w3 w4) : TB M sp lp pp dp qp mp blocks frames F es w bx X R sl w4 :=
  ⟨h.p.below hb, h.f.below hb, fun k hk => Gr.grow hb.size (h.r k hk), h.n0, h.n1, h.k.step hb, (hb.block _ (heap_lt h.b0)).trans h.b0, (hb.block _ (heap_lt h.b1)).trans h.b1, (hb.block _ (heap_lt h.bx)).trans h.bx⟩
theorem TB.pg (h : TB M sp lp pp dp qp mp blocks frames F es w bx X R sl w3) {b : Nat} {x0 x1 : Value} (hb : w3.heap[b]? = some (.cells #[x0, x1] 74 (0, 0))) (hn : ¬ R b) (hw : w.heap.size ≤ b) (h0 : b ≠ w.heap.size) (h1 : b ≠ w.heap.size + 1) (h2 : b ≠ bx) (l : Int) (v : Value) :
    TB M sp lp pp dp qp mp blocks frames F es w bx X R sl (pgPut w3 b l v) := by
  have ht : tag w3 b ∉ dTags ∧ tag w3 b ≠ 169 := by rw [tag_of hb]; decide
  have ho : ∀ k, k ≠ b → (pgPut w3 b l v).heap[k]? = w3.heap[k]? := fun k hk => pgPut_other hk l v
  have hsz : (pgPut w3 b l v).heap.size = w3.heap.size := by unfold pgPut; simp [World.setCell]
  refine ⟨p2_but h.p ho ht.2, FwM.but h.f ho hn ht, fun k hk => Gr.grow (Nat.le_of_eq hsz.symm) (h.r k hk), h.n0, h.n1, Kp.then h.k (pgPut_below (Below.refl _ _) hw l v), (ho _ h0.symm).trans h.b0, (ho _ h1.symm).trans h.b1, (ho _ h2.symm).trans h.bx⟩
structure TE (M : Nat → Prop) (sp lp pp dp qp mp : Nat) (blocks frames : Int) (F : FS) (es : List (Int × Int)) (w : World) (x : Tx) (l : Int) (sl : Value) (w3 : World) : Prop where
  p : P2 w3 169 sl es
  f : FwPost M sp lp pp dp qp mp blocks frames F w w3
  b0 : w3.heap[w.heap.size]? = some (.cells #[.int .i64 x.id, .int .i64 x.state, .int .i64 x.last, .int .i64 x.next] 102 (0, 0))
  b1 : w3.heap[w.heap.size + 1]? = some (.cells #[.int .i64 l, sl] 74 (0, 0))
theorem TB.fin1 (h : TB M sp lp pp dp qp mp blocks frames F es w bx X R sl w3) (x : Tx) (l : Int) : TE M sp lp pp dp qp mp blocks frames F es w x l sl (pgPut (txPut w3 w.heap.size x) (w.heap.size + 1) l sl) := by
  have o1 : ∀ k, k ≠ w.heap.size → (txPut w3 w.heap.size x).heap[k]? = w3.heap[k]? := fun k hk => txPut_other hk x
  have t1 : tag w3 w.heap.size ∉ dTags ∧ tag w3 w.heap.size ≠ 169 := by rw [show tag w3 w.heap.size = 102 from tag_of h.b0]; decide
  have q1 : (txPut w3 w.heap.size x).heap[w.heap.size + 1]? = some z2p := (o1 _ (by omega)).trans h.b1
  have t2 : tag (txPut w3 w.heap.size x) (w.heap.size + 1) ∉ dTags ∧ tag (txPut w3 w.heap.size x) (w.heap.size + 1) ≠ 169 := by rw [show tag (txPut w3 w.heap.size x) (w.heap.size + 1) = 74 from tag_of q1]; decide
  have o2 : ∀ k, k ≠ w.heap.size + 1 → (pgPut (txPut w3 w.heap.size x) (w.heap.size + 1) l sl).heap[k]? = (txPut w3 w.heap.size x).heap[k]? := fun k hk => pgPut_other hk l sl
  have hsz : (pgPut (txPut w3 w.heap.size x) (w.heap.size + 1) l sl).heap.size = w3.heap.size := by unfold pgPut txPut; simp [World.setCell]
  have p1 := txPut_heap h.b0 x
  exact ⟨p2_but (p2_but h.p o1 t1.2) o2 t2.2, ⟨FwM.mono (FwM.but (FwM.but h.f o1 h.n0 t1) o2 h.n1 t2) fun k hk => Gr.grow (Nat.le_of_eq hsz.symm) (h.r k hk), Kp.then h.k (pgPut_below (txPut_below (Below.refl _ _) (Nat.le_refl _) x) (by omega) l sl)⟩, (o2 _ (by omega)).trans p1, pgPut_heap q1 l sl⟩
theorem TE.below {x : Tx} {l : Int} (h : TE M sp lp pp dp qp mp blocks frames F es w x l sl w3) (hb : Below w3.heap.size w3 w4) : TE M sp lp pp dp qp mp blocks frames F es w x l sl w4 :=
  ⟨h.p.below hb, h.f.step hb, (hb.block _ (heap_lt h.b0)).trans h.b0, (hb.block _ (heap_lt h.b1)).trans h.b1⟩
end
def GetIn (M : Nat → Prop) (sp lp pp dp qp mp : Nat) (blocks frames : Int) (F : FS) (l0 : Int) (es : List (Int × Int)) (w : World) (bx : Nat) (X : Obj) (R2 : Nat → Prop) (V : World) (e : Ending) (w3 : World) : Prop :=
  ∃ sl, e = .returned (.tuple #[.agg #[.int .i64 l0, sl], .nilIface]) ∧ TB M sp lp pp dp qp mp blocks frames F es w bx X (Gr R2 V w3) sl w3 ∧ Kp R2 V w3
theorem getin {M : Nat → Prop} {sp lp pp dp qp mp : Nat} {blocks frames : Int} {F : FS} {l0 : Int} {es : List (Int × Int)} {w : World} {bx : Nat} {X : Obj} {W1 w2 V w3 : World} {sl : Value} (hp : P2 w3 169 sl es)
    (hpost : FwPost (Gr (Cut M w.heap.size) W1 w2) sp lp pp dp qp mp blocks frames F V w3) (h1 : Below w.heap.size w W1) (h2 : Kp (Cut M w.heap.size) W1 w2) (h3 : Below w2.heap.size w2 V)
    (b0 : W1.heap[w.heap.size]? = some z4) (b1 : W1.heap[w.heap.size + 1]? = some z2p) (hx : W1.heap[bx]? = some X) (hbx : w.heap.size ≤ bx) :
    GetIn M sp lp pp dp qp mp blocks frames F l0 es w bx X (Gr (Cut M w.heap.size) W1 w2) V (.returned (.tuple #[.agg #[.int .i64 l0, sl], .nilIface])) w3 := by
  obtain ⟨f, k⟩ := hpost
  have hnc : ∀ j, w.heap.size ≤ j → j < W1.heap.size → ¬ Gr (Cut M w.heap.size) W1 w2 j := fun j hj hj2 hc => by
    rcases hc with hc | ⟨c1, c2⟩
    · have := hc.2; omega
    · omega
  have s1 := h1.size
  have s2 := h2.size
  have s3 := h3.size
  have s4 := k.size
  have l0' := heap_lt b0
  have l1' := heap_lt b1
  have lx := heap_lt hx
  have keep : ∀ {j : Nat} {o : Obj}, W1.heap[j]? = some o → w.heap.size ≤ j → w3.heap[j]? = some o := fun {j o} ho hj => by
    have hl := heap_lt ho
    have e2 := h2.at ho (fun hc => by have := hc.2; omega)
    have e3 := (h3.block _ (heap_lt e2)).trans e2
    exact k.at e3 (hnc _ hj hl)
  have hng : ∀ j, w.heap.size ≤ j → j < W1.heap.size → ¬ Gr (Gr (Cut M w.heap.size) W1 w2) V w3 j := fun j hj hj2 hc => by
    rcases hc with hc | ⟨c1, c2⟩
    · exact hnc j hj hj2 hc
    · omega
  refine ⟨sl, rfl, ⟨hp, f, fun j hj => ?_, hng _ (Nat.le_refl _) l0', hng _ (by omega) l1', ?_, keep b0 (Nat.le_refl _), keep b1 (by omega), keep hx hbx⟩, k⟩
  · rcases hj with (hj | ⟨c1, c2⟩) | ⟨c1, c2⟩
    · exact .inl hj.1
    · exact .inr ⟨by omega, by omega⟩
    · exact .inr ⟨by omega, c2⟩
  · have k1 : Kp M w W1 := .of_below h1
    have k2 : Kp M w w2 := k1.trans (h2.wide fun j hj => hj.1)
    have k3 := k2.step h3
    refine ⟨k.os.trans k3.os, k.tape.trans k3.tape, k.output.trans k3.output, Nat.le_trans k3.size k.size, fun j hj hn => ?_, fun j hj ht => ?_⟩
    · refine (k.block j (by omega) fun hc => ?_).trans (k3.block j hj hn)
      rcases hc with hc | ⟨c1, _⟩
      · exact hn hc.1
      · omega
    · have e := k3.ent j hj ht
      exact (k.ent j (by omega) (by rw [tag_eq e]; exact ht)).trans e
theorem takes_calls (a : Nat → Addr) (M : Nat → Prop) (sp lp pp dp qp mp : Nat) (blocks frames : Int) (F : FS) (n key hint : Int) (N m : Nat) (ch : Int → List Int) (kp : Int → Int) (own : Int → Int) (w : World) (h : FwM M w sp lp pp dp qp mp blocks frames F) (hok : FOk N m ch kp F) (hk : KOk own F.ks) (he : own key = n) (hs : SentsAll w a) (hO : OutAll M a) (h0 : 0 ≤ n) (h1 : n < F.sess) (h2 : F.sess ≤ 1000)
    (hx : thas F.ts (F.of n) = true) (hk0 : 0 ≤ key) (hk1 : key < 1048576) (hl : F.ks.length ≤ 80000) (hm : m ≤ 30000) (hh0 : -9223372036854775808 ≤ hint) (hh1 : hint ≤ 9223372036854775807) :
    Calls Tryz.prog 69 #[.pointer (some ⟨sp, 0, none⟩), .int .i64 n, .int .i64 key, .int .i64 2, .int .i64 hint] w (TakesPost M sp lp pp dp qp mp blocks frames F n key hint w) := by
  have HF := Aside0.mk (FwM.cut h)
  have HC := Aside0.mk (fun (W : World) (hb : Below w.heap.size w W) => called_calls _ sp lp pp dp qp mp blocks frames F n W (h.below hb) h0 h1 h2 hx hok.t.rise)
  have HS := Aside0.mk hs
  have HO := Aside0.mk hO
  have HOK := Aside0.mk hok
  have HK := Aside0.mk hk
  have HE := Aside0.mk he
  have HL := Aside0.mk hl
  have HM := Aside0.mk hm
  have HHB := Aside0.mk (And.intro hh0 hh1)
  have q0 : decide (key < 0) = false := decide_eq_false (by omega)
  have q1 : decide (1048576 ≤ key) = false := decide_eq_false (by omega)
  have hspl : sp < w.heap.size := by obtain ⟨kv, tv, b1, _⟩ := h.box; exact heap_lt b1
  obtain ⟨x, hxx⟩ : ∃ x, tget F.ts (F.of n) = x := ⟨_, rfl⟩
  have HXX := Aside0.mk hxx
  rw [hxx] at HC
  obtain ⟨xi, xs, xl, xn⟩ := x
  clear h hok hk he hs hO hl hm hx hxx h0 h1 h2 hh0 hh1
  go_enter Tryz.func69, Tryz.ntmps69
  go_wp2_with fail
  refine (HC.out _ (by repeat (first | exact Below.refl _ _ | apply below_drew1 | apply below_alloc))).mono ?_
  rintro e w1 ⟨rfl, hb⟩
  obtain ⟨W, hW⟩ : ∃ W, (w.alloc z4).alloc z2p = W := ⟨_, rfl⟩
  have hz0 : W.heap[w.heap.size]? = some z4 := by rw [← hW]; exact (Below.heap_alloc _ _ _ (by show _ < (w.heap.push _).size; rw [Array.size_push]; omega)).trans (heap_alloc_new w _)
  have hz1 : W.heap[w.heap.size + 1]? = some z2p := by
    rw [← hW]; have := heap_alloc_new (w.alloc z4) z2p; rw [show (w.alloc z4).heap.size = w.heap.size + 1 from by show (w.heap.push _).size = _; rw [Array.size_push]] at this; exact this
  have hsW : W.heap.size = w.heap.size + 2 := by rw [← hW]; show ((w.heap.push _).push _).size = _; rw [Array.size_push, Array.size_push]
  rw [show (w.alloc (.cells #[.int .i64 0, .int .i64 0, .int .i64 0, .int .i64 0] 102)).alloc (.cells #[.int .i64 0, .slice none 0 0] 74) = W from hW] at hb
  have hB0 : Below w.heap.size w W := by rw [← hW]; repeat (first | exact Below.refl _ _ | apply below_drew1 | apply below_alloc)
  have hB := below_step hB0 hb
  have HQ0 := Aside0.mk ((hb.block _ (heap_lt hz0)).trans hz0)
  have HQ1 := Aside0.mk ((hb.block _ (heap_lt hz1)).trans hz1)
  have hs1 : w.heap.size + 2 ≤ w1.heap.size := by have := hb.size; omega
  obtain ⟨bx, hbx⟩ : ∃ bx, w1.heap.size = bx := ⟨_, rfl⟩
  obtain ⟨W1, hW1⟩ : ∃ W1, w1.alloc (.cells #[.int .i64 xi, .int .i64 xs, .int .i64 xl, .int .i64 xn] 102) = W1 := ⟨_, rfl⟩
  have hBW : Below w.heap.size w W1 := by rw [← hW1]; exact below_alloc hB _
  have hg1 : W1.cell? ⟨6, 0, none⟩ = some (.iface 333 (.pointer (some (a 1)))) := (HS.out.below hBW).cell 1 (by decide)
  have HXB := Aside0.mk (show W1.heap[bx]? = some (.cells #[.int .i64 xi, .int .i64 xs, .int .i64 xl, .int .i64 xn] 102 (0, 0)) from by rw [← hW1, ← hbx]; exact heap_alloc_new _ _)
  have hsW1 : W1.heap.size = bx + 1 := by rw [← hW1, ← hbx]; show (w1.heap.push _).size = _; rw [Array.size_push]
  have HQ0' := Aside0.mk (show W1.heap[w.heap.size]? = some z4 from by rw [← hW1]; exact (Below.heap_alloc _ _ _ (by omega)).trans HQ0.out)
  have HQ1' := Aside0.mk (show W1.heap[w.heap.size + 1]? = some z2p from by rw [← hW1]; exact (Below.heap_alloc _ _ _ (by omega)).trans HQ1.out)
  have HFW := Aside0.mk (HF.out.below hBW)
  have HBW := Aside0.mk hBW
  have HWE := Aside0.mk hW1
  have HBX := Aside0.mk hbx
  obtain ⟨c0, _, _, _, _, _, _, _⟩ := HFW.out.cells
  have hspW : sp < W1.heap.size := by omega
  have he := neq_nil (a 1) W1
  simp only [txV, z4, z2p] at *
  clear hb hB hB0 hW hW1 hBW hz0 hz1 hsW hbx
  go_upto_region 2 with fail
  rw [show w1.alloc (.cells #[.int .i64 xi, .int .i64 xs, .int .i64 xl, .int .i64 xn] 102) = W1 from HWE.out]
  go_upto_region 6 with fail
  obtain ⟨cs, kv, hlk, hput⟩ := FwM.lks HFW.out
  have HLK := Aside0.mk hlk
  have HPUT := Aside0.mk hput
  clear hlk hput
  go_wp2_with fail
  refine (take_calls _ sp 6 118 cs kv F.ks n key 2 _ HLK.out (.inr rfl) (HK.out.who HE.out 2) (by have := HL.out; omega)).mono ?_
  rintro e w2 ⟨rfl, hpost⟩
  have HP2 := Aside0.mk (HPUT.out _ _ hpost)
  clear hpost HLK HPUT
  have k0 : w2.cell? ⟨sp, 0, none⟩ = some (.int .i64 F.P) := HP2.out.1.cells.1
  have k5 := HP2.out.1.cells.2.2.2.1
  have HS1 := Aside0.mk (HS.out.below HBW.out)
  have HOC := Aside0.mk (OutAll.sub (M' := Cut M w.heap.size) HO.out fun k hk => hk.1)
  have HS2 := Aside0.mk (SentsAll.kp HS1.out HP2.out.2 HOC.out)
  have HOG := Aside0.mk (OutAll.gr (w' := w2) HOC.out HS1.out)
  have hnc : ∀ k, w.heap.size ≤ k → ¬ Cut M w.heap.size k := fun k hk hc => by have := hc.2; omega
  have hsW2 : W1.heap.size ≤ w2.heap.size := HP2.out.2.size
  have hsp2 : sp < w2.heap.size := by omega
  have hsB : w.heap.size ≤ bx := by have := HBX.out; omega
  have HT0 := Aside0.mk (fun (V : World) (hb : Below w2.heap.size w2 V) => by
    obtain ⟨p1, p2⟩ := placeOf_in key HOK.out.g.pg.pages
    obtain ⟨t1, _⟩ := takes_ok HOK.out HK.out HE.out ⟨hk0, hk1⟩ hint
    have hg := get_pool a _ pp lp dp F.S (placeOf key F.P) hint V ((HS2.out.below hb).k _ (by decide)) (HOG.out.k _ (by decide)) (HP2.out.1.below hb).sys (HOK.out.g.loose.mono (by have := HM.out; omega)) HHB.out.1 HHB.out.2
    exact hg.mono fun e w3 => by
      rintro ⟨sl, ev, rfl, hp, hv, hx, hf⟩
      rw [t1] at hp hv hx ⊢
      have hev : ev = .nilIface := hv
      subst hev
      have hpost := FwM.sy (HP2.out.1.below hb) hx hf
      exact (getin (X := .cells #[.int .i64 xi, .int .i64 xs, .int .i64 xl, .int .i64 xn] 102 (0, 0)) (bx := bx) hp hpost HBW.out HP2.out.2 hb HQ0'.out HQ1'.out HXB.out hsB))
  obtain ⟨pk, hpk⟩ : ∃ pk, placeOf key F.P = pk := ⟨_, rfl⟩
  obtain ⟨P, hP⟩ : ∃ P, F.P = P := ⟨_, rfl⟩
  have HPK := Aside0.mk (show placeOf key P = pk by rw [← hP]; exact hpk)
  have HPB := Aside0.mk (show 1 ≤ P ∧ P ≤ 1000 by rw [← hP]; have := HOK.out.g.pg.pages; have := HOK.out.g.p32; omega)
  obtain ⟨l0, hl0⟩ : ∃ l0, (cur F.S (placeOf key F.P)).1 = l0 := ⟨_, rfl⟩
  obtain ⟨es, hes⟩ : ∃ es, (cur F.S (placeOf key F.P)).2 = es := ⟨_, rfl⟩
  rw [hl0, hes, hpk] at HT0
  rw [hP] at k0
  have HLE := Aside0.mk (And.intro hl0 hes)
  have HT1 := Aside0.mk (fun (V : World) (hb : Below w2.heap.size w2 V) (b : Nat) (o : Obj) (hx : V.heap[b]? = some o) (hb1 : w2.heap.size ≤ b) => (HT0.out V hb).mono (fun e w3 (h : GetIn M sp lp pp dp qp mp blocks frames (takesF F n key 2 hint) l0 es w bx (.cells #[.int .i64 xi, .int .i64 xs, .int .i64 xl, .int .i64 xn] 102 (0, 0)) (Gr (Cut M w.heap.size) W1 w2) V e w3) => (⟨h, by
    obtain ⟨sl, _, _, hk⟩ := h
    refine hk.at hx fun hc => ?_
    rcases hc with hc | ⟨c1, c2⟩
    · have := hc.2; omega
    · omega⟩ : GetIn M sp lp pp dp qp mp blocks frames (takesF F n key 2 hint) l0 es w bx (.cells #[.int .i64 xi, .int .i64 xs, .int .i64 xl, .int .i64 xn] 102 (0, 0)) (Gr (Cut M w.heap.size) W1 w2) V e w3 ∧ w3.heap[b]? = some o)))
  clear hpk hP hl0 hes
  have HNG := fun (V w3 : World) (hv : w2.heap.size < V.heap.size) (hc : Gr (Gr (Cut M w.heap.size) W1 w2) V w3 w2.heap.size) => (show False from by
    rcases hc with (hc | ⟨c1, c2⟩) | ⟨c1, c2⟩
    · have := hc.2; have := HBX.out; omega
    · omega
    · omega)
  have hs12 : w.heap.size + 2 ≤ bx ∧ bx < w2.heap.size := by have := HBX.out; omega
  go_upto_region 12 with fail
  go_cut [14, 15] (fun v14 v15 wx => v14 = .nilIface ∧ ∃ (b : Nat) (sl : Value) (R : Nat → Prop), v15 = .pointer (some ⟨b, 0, none⟩) ∧ Aside0 (wx.heap[b]? = some (.cells #[.int .i64 l0, sl] 74 (0, 0))) ∧ Aside0 (TB M sp lp pp dp qp mp blocks frames (takesF F n key 2 hint) es w bx (.cells #[.int .i64 xi, .int .i64 xs, .int .i64 xl, .int .i64 xn] 102 (0, 0)) R sl wx) ∧ Aside0 (w.heap.size + 2 ≤ b))
  case first =>
    go_region_law (first
      | (go_simp; go_at_call 125; refine (place_at key P pk hk0 hk1 HPB.out.1 HPB.out.2 HPK.out _).mono ?_; rintro e wq ⟨rfl, rfl⟩)
      | (go_simp; go_at_call 37; refine (HT1.out _ (by repeat (first | exact Below.refl _ _ | apply below_drew1 | apply below_alloc)) w2.heap.size _ (by exact heap_alloc_new w2 _) (Nat.le_refl _)).mono ?_; rintro e w3 ⟨⟨sl, rfl, htb, hkp⟩, hbo⟩; obtain ⟨A3, c3, rfl, _⟩ := ow_slice htb.p.1; obtain ⟨o0, o1, g0, g1⟩ := pg_cells hbo)
      | (go_simp; go_at_call 37; refine (HT0.out _ (by repeat (first | exact Below.refl _ _ | apply below_drew1 | apply below_alloc))).mono ?_; rintro e w3 ⟨sl, rfl, htb, hkp⟩; obtain ⟨A3, c3, rfl, _⟩ := ow_slice htb.p.1))
    all_goals
      first
        | (rw [show (w3.setCell ⟨w2.heap.size, 0, none⟩ (.int .i64 l0)).setCell ⟨w2.heap.size, 1, none⟩ (.slice A3 es.length c3) = pgPut w3 w2.heap.size l0 (.slice A3 es.length c3) from rfl]
           have HH1 := Aside0.mk (pgPut_heap hbo l0 (.slice A3 es.length c3))
           have HH2 := Aside0.mk (TB.pg htb hbo (HNG _ _ (by show _ < (w2.heap.push _).size; rw [Array.size_push]; omega)) (by omega) (by omega) (by omega) (by omega) l0 (.slice A3 es.length c3))
           have HH3 := Aside0.mk (show w.heap.size + 2 ≤ w2.heap.size by omega)
           clear o0 o1 g0 g1 hbo htb hkp
           generalize pgPut w3 w2.heap.size l0 (.slice A3 es.length c3) = wd at HH1 HH2 ⊢)
        | (have HH1 := Aside0.mk (heap_alloc_new w3 (.cells #[.int .i64 l0, .slice A3 es.length c3] 74))
           have HH2 := Aside0.mk (htb.below (below_alloc (Below.refl _ _) (.cells #[.int .i64 l0, .slice A3 es.length c3] 74)))
           have HH3 := Aside0.mk (show w.heap.size + 2 ≤ w3.heap.size by have := htb.k.size; have := hkp.size; simp at this; omega)
           clear htb hkp
           generalize w3.alloc (.cells #[.int .i64 l0, .slice A3 es.length c3] 74) = wd at HH1 HH2 ⊢)
      go_wp2_with fail
      go_meet
      exact ⟨rfl, _, _, _, rfl, HH1, HH2, HH3⟩
  case rest =>
    obtain ⟨rfl, b, sl, R, rfl, HPG, HTB, HBN⟩ := hcut
    obtain ⟨A3, c3, rfl, _⟩ := ow_slice HTB.out.p.1
    rw [HBX.out]
    obtain ⟨_, _, g0, g1⟩ := pg_cells HPG.out
    obtain ⟨x0, x1, x2, x3, _, _, _, _⟩ := tx_cells HTB.out.bx
    obtain ⟨_, _, _, _, r0, r1, r2, r3⟩ := tx_cells HTB.out.b0
    obtain ⟨f0, f1, _, _⟩ := pg_cells HTB.out.b1
    have hlt0 := heap_lt HTB.out.b0
    have hlt1 := heap_lt HTB.out.b1
    have n1 : b ≠ w.heap.size := by have := HBN.out; omega
    have n2 : b ≠ w.heap.size + 1 := by have := HBN.out; omega
    have n3 : bx ≠ w.heap.size := by omega
    have n4 : bx ≠ w.heap.size + 1 := by omega
    clear k0 k5 hg1 he hs1 hspW hsW1 hsW2 hsp2 hnc
    go_upto_region 13 with fail
    go_cut [12] (fun v12 wx => v12 = .nilIface ∧ Aside0 (TE M sp lp pp dp qp mp blocks frames (takesF F n key 2 hint) es w ⟨xi, xs, xl, xn⟩ l0 (.slice A3 es.length c3) wx))
    case first =>
      go_region_law (fail)
      all_goals
        rw [show (((((wc.setCell ⟨w.heap.size, 0, none⟩ (.int .i64 xi)).setCell ⟨w.heap.size, 1, none⟩ (.int .i64 xs)).setCell ⟨w.heap.size, 2, none⟩ (.int .i64 xl)).setCell ⟨w.heap.size, 3, none⟩ (.int .i64 xn)).setCell ⟨w.heap.size + 1, 0, none⟩ (.int .i64 l0)).setCell ⟨w.heap.size + 1, 1, none⟩ (.slice A3 es.length c3) = pgPut (txPut wc w.heap.size ⟨xi, xs, xl, xn⟩) (w.heap.size + 1) l0 (.slice A3 es.length c3) from rfl]
        have HTE := Aside0.mk (TB.fin1 HTB.out ⟨xi, xs, xl, xn⟩ l0)
        generalize pgPut (txPut wc w.heap.size ⟨xi, xs, xl, xn⟩) (w.heap.size + 1) l0 (.slice A3 es.length c3) = wd at HTE ⊢
        go_wp2_with fail
        go_meet
        exact ⟨rfl, ⟨TE.below HTE.out (by repeat (first | exact Below.refl _ _ | apply below_drew1))⟩⟩
    case rest =>
      obtain ⟨rfl, HTE⟩ := hcut
      clear g0 g1 x0 x1 x2 x3 r0 r1 r2 r3 f0 f1 hlt0 hlt1
      obtain ⟨x0, x1, x2, x3, _, _, _, _⟩ := tx_cells HTE.out.b0
      obtain ⟨_, _, g0, g1⟩ := pg_cells HTE.out.b1
      go_wp2_with fail
      refine bodyPost_ret (v := .tuple #[.agg #[.int .i64 xi, .int .i64 xs, .int .i64 xl, .int .i64 xn], .agg #[.int .i64 l0, .slice A3 es.length c3], .nilIface]) ?_ ?_ ?_
      case refine_2 => rfl
      case refine_3 => exact ⟨.slice A3 es.length c3, by rw [HXX.out, HLE.out.1]; rfl, by rw [HLE.out.2]; exact HTE.out.p, HTE.out.f⟩
      simp [results, Tryz.results69, go_sem, x0, x1, x2, x3, g0, g1]
end Go.Proofs.YtaplpeoikebedaaGreatDoor.FwdT
namespace Go.Proofs.YtaplpeoikebedaaGreatDoor.FwdG
open Go.RowKit Go.Maps YtaplpeoikebedaaGreatDoorW.PrintWords YtaplpeoikebedaaGreatDoorW.PrintLast YtaplpeoikebedaaGreatDoorW.PrintMore
open See Mem Page Dirty SysD SysM StoreD StoreF TransT LockT LockU SpaceT WaitT FwdM FwdC FwdE FwdT
attribute [local go_sem] max2_imax min2_imin max_two min_two
end Go.Proofs.YtaplpeoikebedaaGreatDoor.FwdG
namespace Go.Proofs.YtaplpeoikebedaaGreatDoor.First17
open Go.RowKit Go.Maps YtaplpeoikebedaaGreatDoorW.PrintWords YtaplpeoikebedaaGreatDoorW.PrintLast YtaplpeoikebedaaGreatDoorW.PrintMore
open See Mem Page Disk DiskN RecD Pool3 Wal Fresh SysD SysM StoreD StoreF StoreI StoreJ RoomD TransT LockT LockU SpaceT WaitT FwdM FwdP FwdC FwdN FwdO FwdB FwdG
attribute [local go_sem] max2_imax min2_imin max_two min_two
theorem fw_up {n : Nat} {w w1 w2 : World} {sp lp pp dp qp mp : Nat} {blocks frames : Int} {F : FS} (hb : Below n w w1) (h : FwM (Gr (fun k => w.heap.size ≤ k) w1 w2) w2 sp lp pp dp qp mp blocks frames F) : FwM (fun k => w.heap.size ≤ k) w2 sp lp pp dp qp mp blocks frames F :=
  FwM.mono h fun k hk => by
    rcases hk with hk | ⟨h1, _⟩
    · exact hk
    · exact Nat.le_trans hb.size h1
theorem out_all {w : World} {a : Nat → Addr} (h : SentsAll w a) : OutAll (fun k => w.heap.size ≤ k) a := fun i hi => by
  have l1 : gl i < w.heap.size := World.block_lt_of_cell? _ _ (h.cell i hi)
  obtain ⟨c, t, hr⟩ := h.row i hi
  have l2 := heap_lt hr
  exact ⟨by omega, by omega⟩
end Go.Proofs.YtaplpeoikebedaaGreatDoor.First17
namespace Go.Proofs.YtaplpeoikebedaaGreatDoor.RefN
open Go.RowKit YtaplpeoikebedaaGreatDoorW.PrintWords YtaplpeoikebedaaGreatDoorW.PrintLast YtaplpeoikebedaaGreatDoorW.PrintMore
open See Mem Clone Go.Proofs.YtaplpeoikebedaaGreatDoor.Cell Page PageB PageR Disk DiskN
attribute [local go_sem] max2_imax min2_imin max_two min_two
theorem info_vers : (Tryz.prog.info? 88).map (fun i => (i.zero, i.size, i.bytes)) = some (some (.slice none 0 0), 1, 24) := by kernel_rfl
theorem news_one (W : World) (b : Nat) (hb : W.heap.size = b) (u : Value) (e : Nat) : ∀ j x, [u][j]? = some x → (W.alloc (.cells #[u] e)).cell? ((⟨b, 0, none⟩ : Addr).add j) = some x := by
  subst hb
  intro j x hx
  exact World.news_of_block (heap_alloc_new W _) j x hx
theorem one_vers (b : Nat) : ∀ u ∈ [Value.slice (some ⟨b, 0, none⟩) 1 1], u.oneCell' = true := by
  intro u hu
  simp at hu
  subst hu
  rfl
theorem len24v {n : Nat} (h : n ≤ 100000) : (n + 1) * 24 ≤ 140737488355328 := by omega
theorem rdisk_calls (n : Int) (w : World) :
    Calls Tryz.prog 80 #[.int .i64 n] w fun e w' => ∃ p, e = .returned (.pointer (some ⟨p, 0, none⟩)) ∧ Below w.heap.size w w' := by
  obtain ⟨i0, hi, hzz⟩ := Option.map_eq_some_iff.1 info_vers
  simp only [Prod.mk.injEq] at hzz
  obtain ⟨hz0, hz1, hz2⟩ := hzz
  obtain ⟨m, hm⟩ : ∃ m, imin (imax n 1) 200 = m := ⟨_, rfl⟩
  have hm1 : 1 ≤ m ∧ m ≤ 200 := by rw [← hm, imin_eq, imax_eq]; omega
  obtain ⟨m1, m2⟩ := hm1
  have HI0 := Aside0.mk (And.intro hi (And.intro hz0 (And.intro hz1 hz2)))
  clear hi hz0 hz1 hz2
  go_enter Tryz.func80, Tryz.ntmps80
  go_wp2_with fail
  go_loopg [4] (m.toNat + 1) (fun kq v4 w' => ∃ (i : Int) (sl : Value) (xs : List Value), v4 = .int .i64 i ∧ Aside0 (0 ≤ i ∧ i ≤ m ∧ (kq : Int) = m + 1 - i ∧ xs.length = i.toNat) ∧ Aside0 (w'.heap[w.heap.size]? = some (.cells #[sl, .int .i64 (-1), .bool false] 216 (0, 0))) ∧ Aside0 (w'.ownsRow (w.heap.size + 1) 88 1 sl xs.length xs) ∧ Aside0 (w.heap.size + 1 ≤ w'.heap.size) ∧ Aside0 (Below w.heap.size w w'))
  case atStart =>
    refine ⟨0, .slice none 0 0, [], rfl, ⟨by omega, by omega, by omega, rfl⟩, ⟨?_⟩, ⟨World.ownsRow_nil _ _ _ _⟩, ⟨by simp⟩, ⟨by repeat (first | exact Below.refl _ _ | apply below_drew1 | apply below_alloc)⟩⟩
    show (w.heap.push _)[w.heap.size]? = _
    exact Array.getElem?_push_size
  case round =>
    obtain ⟨i, sl, xs, rfl, HI, HBX, HRW, HSZ0, HB⟩ := hrel
    have hi0 : 0 ≤ i := HI.out.1
    by_cases hlt : i < m
    · obtain ⟨hi, hz0, hz1, hz2⟩ := HI0.out
      have hc0 : wr.cell? ⟨w.heap.size, 0, none⟩ = some sl := by simp [World.cell?, HBX.out]
      have hf0 : wr.frozen? ⟨w.heap.size, 0, none⟩ = false := by simp [World.frozen?, HBX.out]
      have hsz := HSZ0.out
      have hsz1 : w.heap.size < wr.heap.size := hsz
      have hmk := make256
      have hsz2 : w.heap.size < wr.heap.size + 1 := by omega
      have hsz3 : w.heap.size < wr.heap.size + 1 + 1 := by omega
      have hn5 : xs.length ≤ 100000 := by have := HI.out; omega
      go_wp2_with fail
      go_region_law (first
        | (refine step_append_lies _ (by rfl) _ _ 214 (by rfl) (w.heap.size + 1) 88 i0 (.slice none 0 0) 1 24 Tryz.underlying214 hi hz0 hz1 hz2 rfl (by decide) _ xs.length xs (by rfl) (by exact ow_below HRW.out (by repeat (first | exact Below.refl _ _ | apply below_drew1 | apply below_alloc))) ⟨wr.heap.size + 2, 0, none⟩ 1 1 [.slice (some ⟨wr.heap.size + 1, 0, none⟩) 1 1] (by rfl) rfl (by exact news_one _ _ (by simp) _ _) (by exact one_vers _) (by decide) (by exact len_ok hn5) (by exact len24v hn5) (by simp; omega) (wr.heap.size + 3) (by simp) ?_; intro g2 cap2 w3 hown hgr hor hlt3; have hblk : w3.heap[w.heap.size]? = wr.heap[w.heap.size]? := grown_blk hgr (by exact (show Below wr.heap.size wr _ by repeat (first | exact Below.refl _ _ | apply below_drew1 | apply below_alloc)).block _ hsz1) (by simp; omega) (fun k hk => by have := (ow_block HRW.out hk).1; omega); have hs1 : w3.cell? ⟨w.heap.size, 0, none⟩ = some sl := (World.cell?_of_block (w := wr) (a := ⟨w.heap.size, 0, none⟩) hblk).trans hc0; have hs2 : w3.frozen? ⟨w.heap.size, 0, none⟩ = false := (World.frozen?_of_block (w := wr) (a := ⟨w.heap.size, 0, none⟩) hblk).trans hf0))
      all_goals
        have HSZ := Aside0.mk (show wr.heap.size + 2 ≤ w3.heap.size by have := hgr.size; simp at this; omega)
        have HO3 := Aside0.mk (show w3.ownsRow (w.heap.size + 1) 88 1 (.slice (some ⟨g2, 0, none⟩) (xs.length + 1) cap2) (xs.length + 1) (xs ++ [.slice (some ⟨wr.heap.size + 1, 0, none⟩) 1 1]) from hown)
        have HB3 := Aside0.mk (show Below w.heap.size w w3 from (HB.out.trans (Below.mono (show Below wr.heap.size wr _ by repeat (first | exact Below.refl _ _ | apply below_drew1 | apply below_alloc)) (by omega))).grown (w := _) hgr (by simp; omega) (fun k hk => by have := (ow_block HRW.out hk).1; omega))
        have HBK := Aside0.mk (hblk.trans HBX.out)
        clear hown hgr hor hlt3 hblk hi hz0 hz1 hz2 hmk hc0 hf0
        go_wp2_with fail
        go_roundg (gk - 1)
        case measure => have := HI.out; omega
        case rel =>
          refine ⟨i + 1, .slice (some ⟨g2, 0, none⟩) (xs.length + 1) cap2, xs ++ [.slice (some ⟨wr.heap.size + 1, 0, none⟩) 1 1], rfl, ⟨by omega, by omega, by have := HI.out; omega, by rw [List.length_append]; have := HI.out; simp; omega⟩, ⟨?_⟩, ⟨?_⟩, ⟨?_⟩, ⟨HB3.out.setCell (Nat.le_refl _) _⟩⟩
          · rw [heap_setCell_same _ _ _ _ _ _ HBK.out]
            simp
          · rw [List.length_append]
            exact ow_move HO3.out (fun k hk => Below.heap_setCell _ _ _ _ (by have := (ow_block HO3.out hk).1; show k ≠ w.heap.size; omega))
          · have := HSZ.out
            simp [World.setCell]
            omega
    · go_wp2_with fail
      go_ret
      first
        | exact ⟨⟨w.heap.size, rfl⟩, HB.out⟩
        | exact ⟨w.heap.size, rfl, HB.out⟩
        | exact HB.out
theorem rlog_calls (dp : Nat) (f b s e : Int) (w : World) :
    Calls Tryz.prog 81 #[.pointer (some ⟨dp, 0, none⟩), .int .i64 f, .int .i64 b, .int .i64 s, .int .i64 e] w fun q w' => q = .returned (.pointer (some ⟨w.heap.size, 0, none⟩)) ∧ w'.heap[w.heap.size]? = some (.cells #[.pointer (some ⟨dp, 0, none⟩), .int .i64 f, .int .i64 b, .int .i64 s, .int .i64 e, .slice none 0 0, .int .i64 s] 218 (0, 0)) ∧ Below w.heap.size w w' := by
  go_enter Tryz.func81, Tryz.ntmps81
  go_wp2_with fail
  go_ret
  first
    | exact ⟨rfl, heap_alloc_new _ _, below_alloc (Below.refl _ _) _⟩
    | exact ⟨heap_alloc_new _ _, below_alloc (Below.refl _ _) _⟩
    | exact below_alloc (Below.refl _ _) _
    | trace_state
theorem rpool_calls (dp lp : Nat) (n : Int) (w : World) :
    Calls Tryz.prog 84 #[.pointer (some ⟨dp, 0, none⟩), .pointer (some ⟨lp, 0, none⟩), .int .i64 n] w fun q w' => q = .returned (.pointer (some ⟨w.heap.size, 0, none⟩)) ∧ Below w.heap.size w w' := by
  go_enter Tryz.func84, Tryz.ntmps84
  go_wp2_with fail
  go_ret
  first
    | exact ⟨rfl, below_alloc (Below.refl _ _) _⟩
    | exact below_alloc (Below.refl _ _) _
    | trace_state
theorem rspace_calls (n : Int) (w : World) :
    Calls Tryz.prog 140 #[.int .i64 n] w fun q w' => ∃ p, q = .returned (.pointer (some ⟨p, 0, none⟩)) ∧ Below w.heap.size w w' := by
  go_enter Tryz.func140, Tryz.ntmps140
  go_wp2_with fail
  go_ret
  first
    | exact ⟨⟨_, rfl⟩, below_alloc (Below.refl _ _) _⟩
    | exact ⟨_, rfl, below_alloc (Below.refl _ _) _⟩
    | exact below_alloc (Below.refl _ _) _
    | trace_state
theorem rlast_calls (p : Nat) (w : World) (c3 : w.cell? ⟨p, 3, none⟩ = some (.int .i64 0)) (c5 : w.cell? ⟨p, 5, none⟩ = some (.slice none 0 0)) :
    Calls Tryz.prog 196 #[.pointer (some ⟨p, 0, none⟩)] w fun e w' => e = .returned (.int .i64 0) ∧ Below w.heap.size w w' := by
  go_enter Tryz.func196, Tryz.ntmps196
  go_wp2_with fail
  go_quiet (fail)
  go_wp2_with fail
  go_ret
  exact ⟨by simp, by repeat (first | exact Below.refl _ _ | apply pw_below_drewN | apply below_drew1)⟩
theorem rroom_calls (p : Nat) (b : Int) (w : World) (hb : 0 ≤ b ∧ b ≤ 100) (c2 : w.cell? ⟨p, 2, none⟩ = some (.int .i64 b)) (c3 : w.cell? ⟨p, 3, none⟩ = some (.int .i64 0)) (c5 : w.cell? ⟨p, 5, none⟩ = some (.slice none 0 0)) :
    Calls Tryz.prog 141 #[.pointer (some ⟨p, 0, none⟩)] w fun e w' => ∃ r : Int, e = .returned (.int .i64 r) ∧ Below w.heap.size w w' := by
  have HL := Aside0.mk (fun (V : World) (hb : Below w.heap.size w V) => rlast_calls p V (pw_cell_below hb c3) (pw_cell_below hb c5))
  obtain ⟨q1, q2⟩ := hb
  have hw1 : IntKind.i64.wrap (6 * b) = 6 * b := IntWalk.i64_in _ (by omega)
  clear c3
  go_enter Tryz.func141, Tryz.ntmps141
  go_wp2_with fail
  go_region_held3 (fun w' => w'.cell? ⟨p, 2, none⟩ = some (.int .i64 b) ∧ w'.cell? ⟨p, 5, none⟩ = some (.slice none 0 0))
    (refine ⟨?_, ?_⟩ <;> (first | go_keep | exact hk1 | exact hk2))
    (first | (go_at_call 196; refine (HL.out _ (by repeat (first | exact Below.refl _ _ | apply below_drew1))).mono ?_; rintro e w1 ⟨rfl, hb⟩; have hk1 : w1.cell? ⟨p, 2, none⟩ = some (.int .i64 b) := pw_cell_below hb c2; have hk2 : w1.cell? ⟨p, 5, none⟩ = some (.slice none 0 0) := pw_cell_below hb c5))
  have HB := Aside0.mk (show Below w.heap.size w w1 from ⟨hb.os, hb.tape, hb.output, hb.size, hb.block⟩)
  clear hb
  go_wp2_with fail
  go_ret
  exact ⟨_, rfl, HB.out⟩
theorem rseen_calls (p o : Nat) (w : World) (c : w.cell? ⟨p, o + 1, none⟩ = some (.int .i64 0)) (f : w.frozen? ⟨p, o + 1, none⟩ = false) :
    Calls Tryz.prog 142 #[.pointer (some ⟨p, o, none⟩), .int .i64 0] w fun e w' => (∃ v, w' = w.setCell ⟨p, o + 1, none⟩ v) ∧ ∃ v, e = .returned v := by
  go_enter Tryz.func142, Tryz.ntmps142
  go_wp2_with fail
  go_end0
  first
    | exact ⟨⟨_, rfl⟩, _, rfl⟩
    | exact ⟨_, rfl⟩
    | trace_state
theorem cellx {w : World} {b : Nat} {cs : Array Value} {t : Nat} (h : w.heap[b]? = some (.cells cs t (0, 0))) {i : Nat} {v : Value} (hv : cs[i]? = some v) : w.cell? ⟨b, i, none⟩ = some v ∧ w.frozen? ⟨b, i, none⟩ = false := by
  refine ⟨?_, ?_⟩ <;> simp [World.cell?, World.frozen?, h, hv]
theorem cfg4 {w : World} {b : Nat} {x0 x1 x2 x3 : Value} (h : w.heap[b]? = some (.cells #[x0, x1, x2, x3] 31 (0, 0))) :
    w.cell? ⟨b, 0, none⟩ = some x0 ∧ w.cell? ⟨b, 1, none⟩ = some x1 ∧ w.cell? ⟨b, 2, none⟩ = some x2 ∧ w.cell? ⟨b, 3, none⟩ = some x3 := by
  refine ⟨?_, ?_, ?_, ?_⟩ <;> simp [World.cell?, h]
end Go.Proofs.YtaplpeoikebedaaGreatDoor.RefN
