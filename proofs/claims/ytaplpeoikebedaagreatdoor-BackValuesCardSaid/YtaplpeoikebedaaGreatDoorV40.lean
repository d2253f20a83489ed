/- Joined texts: ValM, TwiceD, RecsD, ValD. No condition but what each says. -/
import Derived.Test.YtaplpeoikebedaaGreatDoorV39
import Derived.Laws.CopyOwn
import Derived.Deep.RegionLaw
import Derived.Test.YtaplpeoikebedaaGreatDoorV38
import Derived.Test.YtaplpeoikebedaaGreatDoorV36
import Derived.Test.YtaplpeoikebedaaGreatDoorV28
set_option maxHeartbeats 8000000
set_option maxRecDepth 100000
set_option linter.unusedVariables false
set_option linter.unusedSimpArgs false
namespace Go.Proofs.YtaplpeoikebedaaGreatDoor.ValM
open Go.RowKit Go.Maps YtaplpeoikebedaaGreatDoorW.PrintWords YtaplpeoikebedaaGreatDoorW.PrintLast YtaplpeoikebedaaGreatDoorW.PrintMore
open See Mem Page Disk Pool2 SysD SysM StoreD StoreF FwdM FwdP FwdT BackM
def arrB (hs : Int → Bool) : Array Value := ((List.range 30).map fun j : Nat => Value.bool (hs j)).toArray
def arrV (vl : Int → Int) : Array Value := ((List.range 30).map fun j : Nat => Value.int .i64 (vl j)).toArray
theorem arrB_len (hs : Int → Bool) : (arrB hs).size = 30 := by unfold arrB; simp
theorem arrV_len (vl : Int → Int) : (arrV vl).size = 30 := by unfold arrV; simp
theorem arrB_at (hs : Int → Bool) {k : Int} (h0 : 0 ≤ k) (h1 : k < 30) : (arrB hs)[k.toNat]? = some (.bool (hs k)) := by
  unfold arrB
  simp only [List.getElem?_toArray, List.getElem?_map]
  rw [List.getElem?_range (by omega)]
  simp only [Option.map_some]
  rw [Int.toNat_of_nonneg h0]
theorem arrV_at (vl : Int → Int) {k : Int} (h0 : 0 ≤ k) (h1 : k < 30) : (arrV vl)[k.toNat]? = some (.int .i64 (vl k)) := by
  unfold arrV
  simp only [List.getElem?_toArray, List.getElem?_map]
  rw [List.getElem?_range (by omega)]
  simp only [Option.map_some]
  rw [Int.toNat_of_nonneg h0]
theorem arrB_set (hs : Int → Bool) (b : Bool) {k : Int} (h0 : 0 ≤ k) (h1 : k < 30) : (arrB hs).setIfInBounds k.toNat (.bool b) = arrB (fun j => if j = k then b else hs j) := by
  apply Array.ext_getElem?
  intro j
  rw [Array.getElem?_setIfInBounds]
  unfold arrB
  by_cases hj : j < 30
  · by_cases e : k.toNat = j
    · have ej : (j : Int) = k := by omega
      simp [e, hj, ej]
    · have ej : ¬ (j : Int) = k := by omega
      simp [e, hj, ej]
  · by_cases e : k.toNat = j
    · omega
    · simp [e, hj]
theorem arrV_set (vl : Int → Int) {k : Int} (v : Int) (h0 : 0 ≤ k) (h1 : k < 30) : (arrV vl).setIfInBounds k.toNat (.int .i64 v) = arrV (fun j => if j = k then v else vl j) := by
  apply Array.ext_getElem?
  intro j
  rw [Array.getElem?_setIfInBounds]
  unfold arrV
  by_cases hj : j < 30
  · by_cases e : k.toNat = j
    · have ej : (j : Int) = k := by omega
      simp [e, hj, ej]
    · have ej : ¬ (j : Int) = k := by omega
      simp [e, hj, ej]
  · by_cases e : k.toNat = j
    · omega
    · simp [e, hj]
theorem cell_at {w : World} {b : Nat} {cs : Array Value} {t : Nat} (h : w.heap[b]? = some (.cells cs t (0, 0))) (i : Nat) : w.cell? ⟨b, i, none⟩ = cs[i]? := by simp [World.cell?, h]
theorem froz_at {w : World} {b : Nat} {cs : Array Value} {t : Nat} (h : w.heap[b]? = some (.cells cs t (0, 0))) (i : Nat) : w.frozen? ⟨b, i, none⟩ = false := by simp [World.frozen?, h]
def Mx (n : Nat) (l : List Nat) : Nat → Prop := fun k => n ≤ k ∧ k ∉ l
theorem mx_up {n : Nat} {l : List Nat} {w1 w2 : World} {bp bm sp lp pp dp qp mp : Nat} {blocks frames : Int} {B : BSt} (h : BkPost (Mx n l) bp bm sp lp pp dp qp mp blocks frames B w1 w2) (hn : n ≤ w1.heap.size) (hl : ∀ k ∈ l, k < w1.heap.size) : BkM (Mx n l) w2 bp bm sp lp pp dp qp mp blocks frames B ∧ Below n w1 w2 ∧ ∀ k ∈ l, w2.heap[k]? = w1.heap[k]? := by
  refine ⟨BkM.mono h.1 fun k hk => ?_, h.2.below (fun k hk => hk.1) hn, fun k hk => h.2.block k (hl k hk) fun hm => hm.2 hk⟩
  rcases hk with hk | ⟨a, b⟩
  · exact hk
  · exact ⟨by omega, fun hx => by have := hl k hx; omega⟩
theorem mx_but {n : Nat} {l : List Nat} {w w' : World} {bp bm sp lp pp dp qp mp : Nat} {blocks frames : Int} {B : BSt} {b ty : Nat} {c : Array Value} (h : BkM (Mx n l) w bp bm sp lp pp dp qp mp blocks frames B) (hb : b ∈ l) (hc : w.heap[b]? = some (.cells c ty (0, 0))) (ht : ty ∉ dTags ∧ ty ≠ 169 ∧ ty ≠ 3) (hw : ∀ k, k ≠ b → w'.heap[k]? = w.heap[k]?) : BkM (Mx n l) w' bp bm sp lp pp dp qp mp blocks frames B := by
  obtain ⟨R, sl, hi⟩ := h
  refine ⟨R, sl, hi.but hw (fun hr => (hi.r b hr).1.2 hb) ?_ (fun e => ?_) (fun e => ?_) ?_⟩
  · rw [tag_of hc]; exact ⟨ht.1, ht.2.1⟩
  · exact hi.low.1.2 (by rw [← e]; exact hb)
  · exact hi.low.2.2 (by rw [← e]; exact hb)
  · rw [tag_of hc]; exact ht.2.2
structure VaM (n b1 b2 b3 b4 : Nat) (bp bm sp lp pp dp qp mp : Nat) (blocks frames : Int) (hs hs0 : Int → Bool) (vl vl0 : Int → Int) (w0 : World) (B : BSt) (w : World) : Prop where
  bk : BkM (Mx n [b1, b2, b3, b4]) w bp bm sp lp pp dp qp mp blocks frames B
  below : Below n w0 w
  size : n ≤ w.heap.size
  ge : n ≤ b1 ∧ n ≤ b2 ∧ n ≤ b3 ∧ n ≤ b4
  ne : b1 < b2 ∧ b2 < b3 ∧ b3 < b4
  a1 : w.heap[b1]? = some (.cells (arrB hs) 43 (0, 0))
  a2 : w.heap[b2]? = some (.cells (arrB hs0) 43 (0, 0))
  a3 : w.heap[b3]? = some (.cells (arrV vl) 44 (0, 0))
  a4 : w.heap[b4]? = some (.cells (arrV vl0) 44 (0, 0))
section
variable {n b1 b2 b3 b4 : Nat} {bp bm sp lp pp dp qp mp : Nat} {blocks frames : Int} {hs hs0 : Int → Bool} {vl vl0 : Int → Int} {w0 w w' : World} {B B' : BSt}
theorem VaM.up (h : VaM n b1 b2 b3 b4 bp bm sp lp pp dp qp mp blocks frames hs hs0 vl vl0 w0 B w) (hp : BkPost (Mx n [b1, b2, b3, b4]) bp bm sp lp pp dp qp mp blocks frames B' w w') : VaM n b1 b2 b3 b4 bp bm sp lp pp dp qp mp blocks frames hs hs0 vl vl0 w0 B' w' := by
  obtain ⟨x, y, z⟩ := mx_up hp h.size fun k hk => by
    simp only [List.mem_cons, List.not_mem_nil, or_false] at hk
    rcases hk with rfl | rfl | rfl | rfl
    · exact heap_lt h.a1
    · exact heap_lt h.a2
    · exact heap_lt h.a3
    · exact heap_lt h.a4
  exact ⟨x, h.below.trans y, Nat.le_trans h.size y.size, h.ge, h.ne, (z _ (by simp)).trans h.a1, (z _ (by simp)).trans h.a2, (z _ (by simp)).trans h.a3, (z _ (by simp)).trans h.a4⟩
theorem VaM.low (h : VaM n b1 b2 b3 b4 bp bm sp lp pp dp qp mp blocks frames hs hs0 vl vl0 w0 B w) (hb : Below w.heap.size w w') : VaM n b1 b2 b3 b4 bp bm sp lp pp dp qp mp blocks frames hs hs0 vl vl0 w0 B w' :=
  ⟨h.bk.below hb, h.below.trans (hb.mono h.size), Nat.le_trans h.size hb.size, h.ge, h.ne, (hb.block _ (heap_lt h.a1)).trans h.a1, (hb.block _ (heap_lt h.a2)).trans h.a2, (hb.block _ (heap_lt h.a3)).trans h.a3, (hb.block _ (heap_lt h.a4)).trans h.a4⟩
theorem VaM.set1 (h : VaM n b1 b2 b3 b4 bp bm sp lp pp dp qp mp blocks frames hs hs0 vl vl0 w0 B w) (b : Bool) {k : Int} (h0 : 0 ≤ k) (h1 : k < 30) : VaM n b1 b2 b3 b4 bp bm sp lp pp dp qp mp blocks frames (fun j => if j = k then b else hs j) hs0 vl vl0 w0 B (w.setCell ⟨b1, k.toNat, none⟩ (.bool b)) := by
  have hw : ∀ j, j ≠ b1 → (w.setCell ⟨b1, k.toNat, none⟩ (.bool b)).heap[j]? = w.heap[j]? := fun j hj => Below.heap_setCell w _ _ j hj
  obtain ⟨n1, n2, n3⟩ := h.ne
  have g := heap_setCell_same w b1 k.toNat _ _ (.bool b) h.a1
  rw [arrB_set hs b h0 h1] at g
  exact ⟨mx_but h.bk (by simp) h.a1 (by decide) hw, h.below.setCell h.ge.1 _, by simpa using h.size, h.ge, h.ne, g, (hw _ (by omega)).trans h.a2, (hw _ (by omega)).trans h.a3, (hw _ (by omega)).trans h.a4⟩
theorem VaM.set3 (h : VaM n b1 b2 b3 b4 bp bm sp lp pp dp qp mp blocks frames hs hs0 vl vl0 w0 B w) (v : Int) {k : Int} (h0 : 0 ≤ k) (h1 : k < 30) : VaM n b1 b2 b3 b4 bp bm sp lp pp dp qp mp blocks frames hs hs0 (fun j => if j = k then v else vl j) vl0 w0 B (w.setCell ⟨b3, k.toNat, none⟩ (.int .i64 v)) := by
  have hw : ∀ j, j ≠ b3 → (w.setCell ⟨b3, k.toNat, none⟩ (.int .i64 v)).heap[j]? = w.heap[j]? := fun j hj => Below.heap_setCell w _ _ j hj
  obtain ⟨n1, n2, n3⟩ := h.ne
  have g := heap_setCell_same w b3 k.toNat _ _ (.int .i64 v) h.a3
  rw [arrV_set vl v h0 h1] at g
  exact ⟨mx_but h.bk (by simp) h.a3 (by decide) hw, h.below.setCell h.ge.2.2.1 _, by simpa using h.size, h.ge, h.ne, (hw _ (by omega)).trans h.a1, (hw _ (by omega)).trans h.a2, g, (hw _ (by omega)).trans h.a4⟩
theorem VaM.box (h : VaM n b1 b2 b3 b4 bp bm sp lp pp dp qp mp blocks frames hs hs0 vl vl0 w0 B w) : w.cell? ⟨bp, 0, none⟩ = some (.pointer (some ⟨sp, 0, none⟩)) ∧ bp < w.heap.size := by
  obtain ⟨R, sl, hi⟩ := h.bk
  exact ⟨hi.cells.1, heap_lt hi.box⟩
theorem VaM.c1 (h : VaM n b1 b2 b3 b4 bp bm sp lp pp dp qp mp blocks frames hs hs0 vl vl0 w0 B w) {k : Int} (h0 : 0 ≤ k) (h1 : k < 30) : w.cell? ⟨b1, k.toNat, none⟩ = some (.bool (hs k)) ∧ w.frozen? ⟨b1, k.toNat, none⟩ = false ∧ b1 < w.heap.size := ⟨(cell_at h.a1 _).trans (arrB_at hs h0 h1), froz_at h.a1 _, heap_lt h.a1⟩
theorem VaM.c2 (h : VaM n b1 b2 b3 b4 bp bm sp lp pp dp qp mp blocks frames hs hs0 vl vl0 w0 B w) {k : Int} (h0 : 0 ≤ k) (h1 : k < 30) : w.cell? ⟨b2, k.toNat, none⟩ = some (.bool (hs0 k)) ∧ b2 < w.heap.size := ⟨(cell_at h.a2 _).trans (arrB_at hs0 h0 h1), heap_lt h.a2⟩
theorem VaM.c3 (h : VaM n b1 b2 b3 b4 bp bm sp lp pp dp qp mp blocks frames hs hs0 vl vl0 w0 B w) {k : Int} (h0 : 0 ≤ k) (h1 : k < 30) : w.cell? ⟨b3, k.toNat, none⟩ = some (.int .i64 (vl k)) ∧ w.frozen? ⟨b3, k.toNat, none⟩ = false ∧ b3 < w.heap.size := ⟨(cell_at h.a3 _).trans (arrV_at vl h0 h1), froz_at h.a3 _, heap_lt h.a3⟩
theorem VaM.c4 (h : VaM n b1 b2 b3 b4 bp bm sp lp pp dp qp mp blocks frames hs hs0 vl vl0 w0 B w) {k : Int} (h0 : 0 ≤ k) (h1 : k < 30) : w.cell? ⟨b4, k.toNat, none⟩ = some (.int .i64 (vl0 k)) ∧ b4 < w.heap.size := ⟨(cell_at h.a4 _).trans (arrV_at vl0 h0 h1), heap_lt h.a4⟩
theorem VaM.row2 (h : VaM n b1 b2 b3 b4 bp bm sp lp pp dp qp mp blocks frames hs hs0 vl vl0 w0 B w) (hs1 : Int → Bool) : VaM n b1 b2 b3 b4 bp bm sp lp pp dp qp mp blocks frames hs hs1 vl vl0 w0 B (w.setRow b2 (arrB hs1)) := by
  have hw : ∀ j, j ≠ b2 → (w.setRow b2 (arrB hs1)).heap[j]? = w.heap[j]? := fun j hj => setRow_other w b2 j _ hj
  obtain ⟨n1, n2, n3⟩ := h.ne
  exact ⟨mx_but h.bk (by simp) h.a2 (by decide) hw, below_setRow h.below h.ge.2.1 _, by simpa using h.size, h.ge, h.ne, (hw _ (by omega)).trans h.a1, setRow_heap w b2 _ _ _ _ h.a2, (hw _ (by omega)).trans h.a3, (hw _ (by omega)).trans h.a4⟩
theorem VaM.row4 (h : VaM n b1 b2 b3 b4 bp bm sp lp pp dp qp mp blocks frames hs hs0 vl vl0 w0 B w) (vl1 : Int → Int) : VaM n b1 b2 b3 b4 bp bm sp lp pp dp qp mp blocks frames hs hs0 vl vl1 w0 B (w.setRow b4 (arrV vl1)) := by
  have hw : ∀ j, j ≠ b4 → (w.setRow b4 (arrV vl1)).heap[j]? = w.heap[j]? := fun j hj => setRow_other w b4 j _ hj
  obtain ⟨n1, n2, n3⟩ := h.ne
  exact ⟨mx_but h.bk (by simp) h.a4 (by decide) hw, below_setRow h.below h.ge.2.2.2 _, by simpa using h.size, h.ge, h.ne, (hw _ (by omega)).trans h.a1, (hw _ (by omega)).trans h.a2, (hw _ (by omega)).trans h.a3, setRow_heap w b4 _ _ _ _ h.a4⟩
theorem und43 : ∃ e, Tryz.prog.underlying 43 = some (.array 30 e) := ⟨_, Tryz.underlying43⟩
theorem und44 : ∃ e, Tryz.prog.underlying 44 = some (.array 30 e) := ⟨_, Tryz.underlying44⟩
theorem siz43 : (Tryz.prog.info? 43).map (·.size) = some 30 := by kernel_rfl
theorem siz44 : (Tryz.prog.info? 44).map (·.size) = some 30 := by kernel_rfl
theorem one43 (hs : Int → Bool) : (arrB hs).all (·.oneCell') = true := by
  rw [Array.all_eq_true_iff_forall_mem]
  intro x hx
  unfold arrB at hx
  simp only [List.mem_toArray, List.mem_map] at hx
  obtain ⟨_, _, rfl⟩ := hx
  rfl
theorem one44 (vl : Int → Int) : (arrV vl).all (·.oneCell') = true := by
  rw [Array.all_eq_true_iff_forall_mem]
  intro x hx
  unfold arrV at hx
  simp only [List.mem_toArray, List.mem_map] at hx
  obtain ⟨_, _, rfl⟩ := hx
  rfl
end
theorem step_load_row {P : Program} {ops : Array Oper} {o : Oper} {a : Act} {w : World} {K : Act → World → Prop} {Q : Exit → Act → World → Prop} {E : Prop} (hgd : o.guard = none) (ty : TypeId) (x : Operand) (ho : o.op = .load ty x) (g : Nat) (hx : a.eval x = .pointer (some ⟨g, 0, none⟩)) (t : TypeId) (cs : Array Value) (fr : Nat × Nat) (d : TypeDesc) (hg : w.heap[g]? = some (.cells cs t fr))
    (hu : P.underlying ty = some d) (hd : (match d with | .struct _ | .array _ _ => true | _ => false) = true) (hi : (P.info? ty).map (·.size) = some cs.size) (hK : K (a.put o.dst (.agg cs)) w) :
    if Region.wanted o (yielded ops a.tmps) = true then Oper.wp P o a w K Q else E := by
  have hw : Region.wanted o (yielded ops a.tmps) = true := by simp [Region.wanted, hgd]
  rw [if_pos hw]
  exact wp_load_row ty x ho g hx t cs fr d hg hu hd hi hK
theorem step_store_row {P : Program} {ops : Array Oper} {o : Oper} {a : Act} {w : World} {K : Act → World → Prop} {Q : Exit → Act → World → Prop} {E : Prop} (hgd : o.guard = none) (ty : TypeId) (x y : Operand) (ho : o.op = .store ty x y) (g : Nat) (cells : Array Value) (hx : a.eval x = .pointer (some ⟨g, 0, none⟩)) (hy : a.eval y = .agg cells)
    (t : TypeId) (old : Array Value) (hg : w.heap[g]? = some (.cells old t (0, 0))) (hi : (P.info? ty).map (·.size) = some cells.size) (hold : old.size = cells.size) (h1 : cells.all (·.oneCell') = true) (hK : K (a.put o.dst undef) (w.setRow g cells)) :
    if Region.wanted o (yielded ops a.tmps) = true then Oper.wp P o a w K Q else E := by
  have hw : Region.wanted o (yielded ops a.tmps) = true := by simp [Region.wanted, hgd]
  rw [if_pos hw]
  exact wp_store_row ty x y ho g cells hx hy t old hg hi hold h1 hK
theorem alloc_len (w : World) (o : Obj) : (w.alloc o).heap.size = w.heap.size + 1 := by
  show (w.heap.push o).size = _
  rw [Array.size_push]
theorem alloc_after {w W : World} {o : Obj} {k : Nat} (hk : w.heap.size = k) (hb : Below (w.alloc o).heap.size (w.alloc o) W) : W.heap[k]? = some o := by
  subst hk
  refine (hb.block _ (by rw [alloc_len]; omega)).trans ?_
  show (w.heap.push o)[w.heap.size]? = some o
  exact Array.getElem?_push_size
theorem alloc4 (w : World) (o1 o2 o3 o4 : Obj) : Below w.heap.size w ((((w.alloc o1).alloc o2).alloc o3).alloc o4) ∧ ((((w.alloc o1).alloc o2).alloc o3).alloc o4).heap[w.heap.size]? = some o1 ∧ ((((w.alloc o1).alloc o2).alloc o3).alloc o4).heap[w.heap.size + 1]? = some o2 ∧ ((((w.alloc o1).alloc o2).alloc o3).alloc o4).heap[w.heap.size + 2]? = some o3 ∧ ((((w.alloc o1).alloc o2).alloc o3).alloc o4).heap[w.heap.size + 3]? = some o4 :=
  ⟨below_alloc (below_alloc (below_alloc (below_alloc (Below.refl _ _) _) _) _) _, alloc_after rfl (below_alloc (below_alloc (below_alloc (Below.refl _ _) _) _) _), alloc_after (alloc_len w o1) (below_alloc (below_alloc (Below.refl _ _) _) _), alloc_after (by rw [alloc_len, alloc_len]) (below_alloc (Below.refl _ _) _), alloc_after (by rw [alloc_len, alloc_len, alloc_len]) (Below.refl _ _)⟩
theorem va_start {n : Nat} {bp bm sp lp pp dp qp mp : Nat} {blocks frames : Int} {B : BSt} {w0 w : World} (h : BkM (fun k => n ≤ k) w bp bm sp lp pp dp qp mp blocks frames B) (hb : Below n w0 w) (hn : n ≤ w.heap.size) (hs hs0 : Int → Bool) (vl vl0 : Int → Int) :
    VaM n w.heap.size (w.heap.size + 1) (w.heap.size + 2) (w.heap.size + 3) bp bm sp lp pp dp qp mp blocks frames hs hs0 vl vl0 w0 B ((((w.alloc (.cells (arrB hs) 43)).alloc (.cells (arrB hs0) 43)).alloc (.cells (arrV vl) 44)).alloc (.cells (arrV vl0) 44)) := by
  obtain ⟨x0, x1, x2, x3, x4⟩ := alloc4 w (.cells (arrB hs) 43) (.cells (arrB hs0) 43) (.cells (arrV vl) 44) (.cells (arrV vl0) 44)
  refine ⟨BkM.below (BkM.mono h.cut fun k hk => ⟨hk.1, fun hx => ?_⟩) x0, hb.trans (x0.mono hn), Nat.le_trans hn x0.size, ⟨by omega, by omega, by omega, by omega⟩, ⟨by omega, by omega, by omega⟩, x1, x2, x3, x4⟩
  have := hk.2
  simp only [List.mem_cons, List.not_mem_nil, or_false] at hx
  omega
end Go.Proofs.YtaplpeoikebedaaGreatDoor.ValM
namespace Go.Proofs.YtaplpeoikebedaaGreatDoor.TwiceD
open Go.RowKit See Mem Page PageB PageR PageL Disk DiskW RecD Dirty Wal WalF PoolG PoolS SysD SysM Fresh FlushG Pager StoreD PageM StoreF StoreG StoreH StoreI StoreJ StoreK StoreV StoreW LockT LockU BackD BackL BackA
end Go.Proofs.YtaplpeoikebedaaGreatDoor.TwiceD
namespace Go.Proofs.YtaplpeoikebedaaGreatDoor.RecsD
open Go.RowKit See Mem Page PageB PageR PageL Disk DiskW RecD Dirty Dirty2 SysD SysM Wal WalF GoodD PoolG PoolS FlushG Fresh DirtD TabL Pager StoreD PageM StoreF StoreG StoreH TransT LockT LockU StoreI StoreJ StoreK RoomD
def with_ (k : Nat) : List Nat := (List.range 30).filter fun j : Nat => placeOf (j : Int) 8 == placeOf (k : Int) 8 && j != k
theorem few_keys : (List.range 30).all (fun k => decide ((with_ k).length ≤ 19)) = true := by decide +kernel
theorem take_lt {ks : List Lk} {k : Int} (h : ∀ x ∈ ks, x.key < 30) (k1 : k < 30) : ∀ x ∈ takeL ks 0 k 2, x.key < 30 := fun x hx2 => by
  unfold takeL at hx2
  split at hx2
  · rcases List.mem_append.1 hx2 with hx2 | hx2
    · exact h x hx2
    · rw [List.mem_singleton] at hx2; rw [hx2]; exact k1
  · obtain ⟨j2, hj2⟩ := List.mem_iff_getElem?.1 hx2
    rw [List.getElem?_modify] at hj2
    cases hq : ks[j2]? with
    | none => rw [hq] at hj2; simp at hj2
    | some y =>
      rw [hq] at hj2
      have hy := h y (List.mem_of_getElem? hq)
      simp at hj2
      rw [← hj2]
      split
      · exact hy
      · exact hy
end Go.Proofs.YtaplpeoikebedaaGreatDoor.RecsD
namespace Go.Proofs.YtaplpeoikebedaaGreatDoor.ValD
open Go.RowKit See Mem Page PageB PageR PageL Disk DiskW RecD Dirty Dirty2 Wal WalF PoolG PoolS SysD SysM Fresh FlushG TabL Pager StoreD PageM StoreF StoreG StoreH StoreI StoreJ StoreV StoreW LockT LockU BackD BackL BackA
def PgK (F : FS) : Prop := ∀ p, 1 ≤ p → p ≤ F.P → ∀ e ∈ (cur F.S p).2, placeOf e.1 F.P = p
theorem pgk_takes {N m : Nat} {ch : Int → List Int} {kp : Int → Int} {F : FS} (h : FOk N m ch kp F) (hk : PgK F) (n key md hint : Int) : PgK (takesF F n key md hint) := by
  obtain ⟨p1, p2⟩ := placeOf_in key h.g.pg.pages
  obtain ⟨S', e1, e2, e3, e4⟩ := get_ok h hint p1 p2
  have hF : (takesF F n key md hint).S = S' := by unfold takesF; rw [e1]
  intro p a b e he
  rw [hF, e3.cur p a b] at he
  exact hk p a b e he
theorem redo_mem {es : List (Int × Int)} {r : RecV} (hr : Rising es) {e : Int × Int} (he : e ∈ redoE es r) : e.1 = r.key ∨ e ∈ es := by
  unfold redoE at he
  split at he
  · rcases (mem_put hr e).1 he with rfl | ⟨h, _⟩
    · exact .inl rfl
    · exact .inr h
  · exact .inr ((mem_drop hr e).1 he).1
theorem set_cur {N m : Nat} {F : FS} {id key : Int} {had has : Bool} {old new : Int} {f : Fp} (hg : GOk N m F) (hf : findP F.S.here (placeOf key F.P) = some f) (hr : recOk (recSet (tget F.ts id) F.P key had old has new) = true) (h6 : is64 old ∧ is64 new) (hk : 0 ≤ key ∧ key < 1048576) (hl : (redoE (cur F.S (placeOf key F.P)).2 (recSet (tget F.ts id) F.P key had old has new)).length ≤ 20) (hfr : 2 ≤ F.free) :
    ∀ j, cur (setF F id key had old has new).S j = if j = placeOf key F.P then (F.S.l.last + 1, redoE (cur F.S (placeOf key F.P)).2 (recSet (tget F.ts id) F.P key had old has new)) else cur F.S j := by
  obtain ⟨ro1, ro2, ro3⟩ := hg.room
  obtain ⟨c1, c2, c3, c4, c5⟩ := chg_ok (r := recSet (tget F.ts id) F.P key had old has new) (fr := F.free - 2) (kp := F.kept + 1) hg hf hr h6 hk (by omega) hl (by omega) (by omega) (by omega)
  exact fun j => c4 j
theorem pgk_set {N m : Nat} {F : FS} {id key : Int} {had has : Bool} {old new : Int} {f : Fp} (hg : GOk N m F) (hK : PgK F) (hf : findP F.S.here (placeOf key F.P) = some f) (hr : recOk (recSet (tget F.ts id) F.P key had old has new) = true) (h6 : is64 old ∧ is64 new) (hk : 0 ≤ key ∧ key < 1048576) (hl : (redoE (cur F.S (placeOf key F.P)).2 (recSet (tget F.ts id) F.P key had old has new)).length ≤ 20) (hfr : 2 ≤ F.free) : PgK (setF F id key had old has new) := by
  have hs := set_cur hg hf hr h6 hk hl hfr
  obtain ⟨p1, p2⟩ := placeOf_in key hg.pg.pages
  intro p a b e he
  rw [hs p] at he
  by_cases e2 : p = placeOf key F.P
  · rw [if_pos e2] at he
    rcases redo_mem (PageV.rise (hg.pg.curV p1 p2)) he with h | h
    · rw [h]; exact e2.symm
    · rw [← e2] at h
      exact hK p a b e h
  · rw [if_neg e2] at he
    exact hK p a b e he
theorem old64 {N m : Nat} {ch : Int → List Int} {kp : Int → Int} {F : FS} (h : FOk N m ch kp F) (key : Int) : is64 ((vals F key).getD 0) := by
  obtain ⟨p1, p2⟩ := placeOf_in key h.g.pg.pages
  have hpv := h.g.pg.curV p1 p2
  have hrise := PageV.rise hpv
  unfold vals
  cases hx : val (cur F.S (placeOf key F.P)).2 key with
  | none => unfold is64; simp
  | some x =>
    have := (val_some hrise key x).1 hx
    exact hpv.2 _ this
theorem pgk_put {N m : Nat} {ch : Int → List Int} {kp : Int → Int} {F F' : FS} {own : Int → Int} {n key v hint : Int} {q : Int × Bool × Option Nat} (h : FOk N m ch kp F) (hK : PgK F) (hk : KOk own F.ks) (he : own key = n) (hid : thas F.ts (F.of n) = true) (hkey : 0 ≤ key ∧ key < 1048576) (hv : is64 v) (hfr : 2 ≤ F.free) (hnf : (vals F key).isSome = true ∨ fullB (takesF F n key 2 hint) key = false) (hR : putR F n key v hint = (F', q)) : PgK F' := by
  obtain ⟨t1, t2, t3, t4, t5, t6, t7, t8, t9⟩ := takes_ok h hk he hkey hint
  obtain ⟨p1, p2⟩ := placeOf_in key h.g.pg.pages
  have hcur := t5 _ p1 p2
  obtain ⟨v1, v2⟩ := page_vals h key
  obtain ⟨x, x1, x2, x3, x4⟩ := t8
  have hP : (takesF F n key 2 hint).P = F.P := rfl
  have hp := put_ok (F := takesF F n key 2 hint) (id := F.of n) (key := key) (v := v) t2 hid t6 hkey hv ⟨x, x1, x2, x3, by rw [x4]; rfl⟩ (by show 2 ≤ F.free; omega) (by
    rw [hP, hcur, v1]
    exact hnf)
  rw [hP, hcur, v1, v2] at hp
  obtain ⟨_, h2, h3, h4, h5⟩ := hp
  unfold putR at hR
  rw [v1, v2, if_neg (by
    rintro ⟨c1, c2⟩
    rcases hnf with h | h
    · rw [h] at c1; cases c1
    · rw [h] at c2; cases c2), if_neg (by omega)] at hR
  simp only [Prod.mk.injEq] at hR
  obtain ⟨rfl, _⟩ := hR
  refine pgk_set t2.g (pgk_takes h hK n key 2 hint) t6 (by rw [hP]; exact h2) ⟨old64 h key, hv⟩ hkey (by rw [hP, hcur]; exact h3) (by show 2 ≤ F.free; omega)
theorem pgk_del {N m : Nat} {ch : Int → List Int} {kp : Int → Int} {F F' : FS} {own : Int → Int} {n key hint : Int} {q : Int × Bool × Option Nat} (h : FOk N m ch kp F) (hK : PgK F) (hk : KOk own F.ks) (he : own key = n) (hid : thas F.ts (F.of n) = true) (hkey : 0 ≤ key ∧ key < 1048576) (hfr : 2 ≤ F.free) (hR : delR F n key hint = (F', q)) : PgK F' := by
  obtain ⟨t1, t2, t3, t4, t5, t6, t7, t8, t9⟩ := takes_ok h hk he hkey hint
  obtain ⟨p1, p2⟩ := placeOf_in key h.g.pg.pages
  have hcur := t5 _ p1 p2
  obtain ⟨v1, v2⟩ := page_vals h key
  obtain ⟨x, x1, x2, x3, x4⟩ := t8
  have hP : (takesF F n key 2 hint).P = F.P := rfl
  have hK2 := pgk_takes h hK n key 2 hint
  unfold delR at hR
  by_cases hh : has (cur F.S (placeOf key F.P)).2 key = false
  · rw [if_pos hh] at hR
    simp only [Prod.mk.injEq] at hR
    obtain ⟨rfl, _⟩ := hR
    exact hK2
  · rw [if_neg hh, if_neg (by omega)] at hR
    simp only [Prod.mk.injEq] at hR
    obtain ⟨rfl, _⟩ := hR
    have hh2 : has (cur F.S (placeOf key F.P)).2 key = true := by simpa using hh
    have hrise := PageV.rise (h.g.pg.curV p1 p2)
    have hv1 : vals (takesF F n key 2 hint) key ≠ none := fun e => by
      rw [t4] at e
      rw [v1, e] at hh2
      cases hh2
    have := set_ok (F := takesF F n key 2 hint) (id := F.of n) (key := key) (had := true) (has := false) (old := fromOf (cur F.S (placeOf key F.P)).2 key) (new := 0) t2 hid t6 hkey ⟨by rw [v2]; exact old64 h key, by unfold is64; simp⟩ (fun e => by cases e) (fun _ => rfl) (.inl rfl) ⟨x, x1, x2, x3, by rw [x4]; rfl⟩ (by show 2 ≤ F.free; omega) (fun _ e => by cases e) (fun _ => hv1)
    obtain ⟨a, b, c, d, e⟩ := this
    exact pgk_set t2.g hK2 t6 b ⟨by rw [v2]; exact old64 h key, by unfold is64; simp⟩ hkey c (by show 2 ≤ F.free; omega)
theorem not_full2 {N m : Nat} {ch : Int → List Int} {kp : Int → Int} {F : FS} (hok : FOk N m ch kp F) (hko : KOk (fun _ => 0) F.ks) (hkr : ∀ x ∈ F.ks, x.key < 30) (hP0 : F.P = 8) (hK : PgK F) (hrg : ∀ j, (vals F j).isSome = true → 0 ≤ j ∧ j < 30) {k : Int} (hint : Int) (k0 : 0 ≤ k) (k1 : k < 30) (hno : vals F k = none) : fullB (takesF F 0 k 2 hint) k = false := by
  obtain ⟨t1, t2, t3, t4, t5, t6, t7, t8, t9⟩ := takes_ok (n := 0) (key := k) hok hko rfl ⟨k0, by omega⟩ hint
  obtain ⟨p1, p2⟩ := placeOf_in k hok.g.pg.pages
  have hcur := t5 _ p1 p2
  have hP : (takesF F 0 k 2 hint).P = 8 := hP0
  obtain ⟨hno2, _⟩ := page_vals hok k
  rw [hno] at hno2
  rw [hP0] at hcur p1 p2 hno2
  obtain ⟨es, hes⟩ : ∃ es, (cur F.S (placeOf k 8)).2 = es := ⟨_, rfl⟩
  have hrise : Rising es := by rw [← hes]; exact PageV.rise (hok.g.pg.curV p1 (by rw [hP0]; exact p2))
  have hkeys : ∀ e ∈ es, 0 ≤ e.1 ∧ e.1 < 30 ∧ placeOf e.1 8 = placeOf k 8 := fun e he => by
    have h3 : placeOf e.1 8 = placeOf k 8 := by
      have := hK _ p1 (by rw [hP0]; exact p2) e (by rw [hes]; exact he)
      rw [hP0] at this
      exact this
    have h4 : vals F e.1 = some e.2 := by
      unfold vals
      rw [hP0, h3, hes]
      exact (val_some hrise e.1 e.2).2 he
    have h5 := hrg e.1 (by rw [h4]; rfl)
    exact ⟨h5.1, h5.2, h3⟩
  rw [hes] at hno2
  unfold fullB
  rw [hP, hcur, hes]
  refine decide_eq_false ?_
  obtain ⟨ml, hml⟩ : ∃ ml, moreL (takesF F 0 k 2 hint) k = ml := ⟨_, rfl⟩
  have hmem : ∀ j ∈ ml, has es j = false ∧ j ≠ k ∧ placeOf j 8 = placeOf k 8 ∧ 0 ≤ j ∧ j < 30 := by
    intro j hj
    rw [← hml] at hj
    unfold moreL at hj
    rw [List.mem_filter, hP, hcur, hes] at hj
    obtain ⟨q1, q2⟩ := hj
    simp only [Bool.and_eq_true, Bool.not_eq_true', bne_iff_ne, beq_iff_eq] at q2
    rw [t3.held] at q1
    obtain ⟨x, hx, rfl⟩ := List.mem_map.1 q1
    exact ⟨q2.1, q2.2.1, q2.2.2, (t3.rng x hx).1, RecsD.take_lt hkr k1 x hx⟩
  have hnd : ml.Nodup := by
    rw [← hml]
    unfold moreL
    rw [t3.held]
    exact t3.once.sublist List.filter_sublist
  have hall : (es.map (·.1) ++ ml).Nodup := by
    rw [List.nodup_append]
    refine ⟨?_, hnd, fun a ha b hb e => ?_⟩
    · unfold List.Nodup
      rw [List.pairwise_map]
      exact hrise.imp fun hab e => by omega
    · subst e
      obtain ⟨e, he, rfl⟩ := List.mem_map.1 ha
      have h1 := (hmem _ hb).1
      have h2 := (has_iff es e.1 hrise).2 ⟨e, he, rfl⟩
      rw [h1] at h2
      cases h2
  obtain ⟨kn, hkn⟩ : ∃ kn : Nat, (kn : Int) = k := ⟨k.toNat, by omega⟩
  have hsub := nodup_sub (b := (RecsD.with_ kn).map fun j : Nat => (j : Int)) hall fun x hx => by
    have hx2 : 0 ≤ x ∧ x < 30 ∧ placeOf x 8 = placeOf k 8 ∧ x ≠ k := by
      rcases List.mem_append.1 hx with hx | hx
      · obtain ⟨e, he, rfl⟩ := List.mem_map.1 hx
        obtain ⟨a1, a2, a3⟩ := hkeys e he
        refine ⟨a1, a2, a3, fun e2 => ?_⟩
        have h2 := (has_iff es e.1 hrise).2 ⟨e, he, rfl⟩
        rw [e2, hno2] at h2
        cases h2
      · obtain ⟨a1, a2, a3, a4, a5⟩ := hmem x hx
        exact ⟨a4, a5, a3, a2⟩
    obtain ⟨a1, a2, a3, a4⟩ := hx2
    refine List.mem_map.2 ⟨x.toNat, List.mem_filter.2 ⟨List.mem_range.2 (by omega), ?_⟩, by omega⟩
    rw [show ((x.toNat : Nat) : Int) = x by omega, hkn]
    simp only [Bool.and_eq_true, beq_iff_eq, bne_iff_ne]
    exact ⟨a3, by omega⟩
  rw [List.length_append, List.length_map, List.length_map] at hsub
  have hfk := List.all_eq_true.1 RecsD.few_keys kn (List.mem_range.2 (by omega))
  have hfk2 := of_decide_eq_true hfk
  rw [hml]
  omega
def tab (hs : Int → Bool) (vl : Int → Int) (j : Int) : Option Int := if hs j then some (vl j) else none
structure VSt (N i : Nat) (ch : Int → List Int) (hs : Int → Bool) (vl : Int → Int) (F : FS) : Prop where
  ok : FOk N i ch (fun _ => 2) F
  kok : KOk (fun _ => 0) F.ks
  kl : F.ks.length ≤ i
  kr : ∀ x ∈ F.ks, x.key < 30
  same : F.P = 8 ∧ F.sess = 1 ∧ F.most = 1 ∧ F.of 0 = 1 ∧ F.S.frames = 2
  free : 237 - 2 * (i : Int) ≤ F.free
  has_ : thas F.ts 1 = true
  val_ : ∀ j, vals F j = tab hs vl j
  rng : ∀ j, hs j = true → 0 ≤ j ∧ j < 30
  keys : PgK F
  len : (ch 1).length ≤ i
  all : ∀ j, rewV F.S.l (ch 1) (vals F) j = none
structure Mk (F : FS) (ch : Int → List Int) (hs : Int → Bool) (vl : Int → Int) (c : List Int) : Prop where
  at_ : ∃ p, ch 1 = p ++ c ∧ ∀ j, rewV F.S.l p (vals F) j = tab hs vl j
theorem VSt.recs {N i : Nat} {ch : Int → List Int} {hs : Int → Bool} {vl : Int → Int} {F : FS} (h : VSt N i ch hs vl F) : ∀ k ∈ ch 1, ∃ r, recOf F.S.l k = some r := fun k hk => by
  obtain ⟨hx, hxid⟩ := tget_mem h.has_
  obtain ⟨_, r, hr, _⟩ := (h.ok.c.last _ hx).1.at_ k (by rw [hxid]; exact hk)
  exact ⟨r, hr⟩
theorem VSt.tx {N i : Nat} {ch : Int → List Int} {hs : Int → Bool} {vl : Int → Int} {F : FS} (h : VSt N i ch hs vl F) : (tget F.ts 1).id = 1 ∧ (tget F.ts 1).next = (ch 1).headD 0 := by
  obtain ⟨hx, hid⟩ := tget_mem h.has_
  refine ⟨hid, ?_⟩
  rw [h.ok.c.next _ hx, hid]
theorem VSt.mark {N i : Nat} {ch : Int → List Int} {hs : Int → Bool} {vl : Int → Int} {F : FS} (h : VSt N i ch hs vl F) : Mk F ch hs vl (ch 1) := ⟨⟨[], rfl, h.val_⟩⟩
theorem begV {N : Nat} (hN : N = (1 + 8 + 40 : Int).toNat) : FOk N 0 (updc (fun _ => []) 1 []) (fun _ => 2) (beginF (newF 8 40 2 1) 0) := by
  rw [hN]
  exact begin_ok (n := 0) (new_ok (P := 8) (blocks := 40) (frames := 2) (sess := 1) 0 (by omega) (by omega) (by omega)) rfl (by decide) (by decide) rfl (by decide) (by decide)
theorem v_start : VSt (1 + 8 + 40 : Int).toNat 0 (updc (fun _ => []) 1 []) (fun _ => false) (fun _ => 0) (beginF (newF 8 40 2 1) 0) := by
  have hb := begV rfl
  have hcur : ∀ p, 1 ≤ p → p ≤ 8 → cur (beginF (newF 8 40 2 1) 0).S p = (0, []) := fun p p1 p2 => by
    show cur (addRec (newF 8 40 2 1).S _) p = _
    rw [addRec_cur]
    exact cur_new (by omega) (by show p < (((1 + 8 + 40 : Int).toNat : Nat) : Int); omega)
  have hv : ∀ j, vals (beginF (newF 8 40 2 1) 0) j = none := fun j => by
    obtain ⟨q1, q2⟩ := placeOf_in j (show (1 : Int) ≤ 8 by omega)
    show val (cur (beginF (newF 8 40 2 1) 0).S (placeOf j 8)).2 j = _
    rw [hcur _ q1 q2]
    rfl
  have hc : updc (fun _ => []) 1 [] 1 = ([] : List Int) := rfl
  refine ⟨hb, KOk.nil _, Nat.le_refl _, fun x hx => (List.not_mem_nil hx).elim, ⟨rfl, rfl, by decide, by decide, rfl⟩, by decide, by decide, hv, fun j hj => (by cases hj), fun p p1 p2 e he => ?_, by rw [hc]; exact Nat.le_refl _, fun j => by rw [hc]; exact hv j⟩
  rw [hcur p p1 p2] at he
  exact (List.not_mem_nil he).elim
theorem v_chg {N i : Nat} {ch : Int → List Int} {hs : Int → Bool} {vl : Int → Int} {F F' : FS} {k : Int} {nv : Option Int} (h : VSt N i ch hs vl F) (k0 : 0 ≤ k) (k1 : k < 30) (hc : ChgR N i ch (fun _ => 2) F 1 k nv F') (hko : KOk (fun _ => 0) F'.ks) (hks : F'.ks = takeL F.ks 0 k 2) (hK : PgK F') {b : Bool} {v : Int} (hnv : nv = if b then some v else none) :
    ∃ ch', VSt N (i + 1) ch' (fun j => if j = k then b else hs j) (fun j => if j = k ∧ b = true then v else vl j) F' ∧ ∀ hs0 vl0 c, Mk F ch hs0 vl0 c → Mk F' ch' hs0 vl0 c := by
  obtain ⟨s1, s2, s3, s4, s5⟩ := h.same
  obtain ⟨q1, q2, q3, q4, q5, q6⟩ := hc.same
  have hch : updc ch 1 ((F.S.l.last + 1) :: ch 1) 1 = (F.S.l.last + 1) :: ch 1 := by unfold updc; rw [if_pos rfl]
  have hrw : ∀ (p : List Int) (hp : ∀ x ∈ p, x ∈ ch 1) (j : Int), rewV F'.S.l ((F.S.l.last + 1) :: p) (vals F') j = rewV F.S.l p (vals F) j := fun p hp j => by
    show rewV F'.S.l p (undoV F'.S.l (F.S.l.last + 1) (vals F')) j = _
    rw [hc.rew, rewV_keep hc.old _ _ fun x hx => h.recs x (hp x hx)]
  refine ⟨_, ⟨hc.ok, hko, ?_, ?_, ⟨q1.trans s1, q2.trans s2, q3.trans s3, by rw [q4]; exact s4, q6.trans s5⟩, ?_, hc.has_, fun j => ?_, fun j hj => ?_, hK, ?_, fun j => ?_⟩, fun hs0 vl0 c hm => ?_⟩
  · rw [hks]
    have := len_takeL F.ks 0 k 2
    have := h.kl
    omega
  · rw [hks]; exact RecsD.take_lt h.kr k1
  · rw [q5]
    have := h.free
    push_cast
    omega
  · rw [hc.vals_]
    rw [hnv, h.val_]
    unfold tab
    by_cases e : j = k
    · cases b <;> simp [e]
    · simp [e]
  · by_cases e : j = k
    · rw [e]; exact ⟨k0, k1⟩
    · rw [if_neg e] at hj
      exact h.rng j hj
  · rw [hch]
    have := h.len
    simp
    omega
  · rw [hch, hrw _ (fun x hx => hx) j]
    exact h.all j
  · obtain ⟨p, e1, e2⟩ := hm.at_
    refine ⟨⟨(F.S.l.last + 1) :: p, by rw [hch, e1]; rfl, fun j => ?_⟩⟩
    rw [hrw p (fun x hx => by rw [e1]; exact List.mem_append_left _ hx) j]
    exact e2 j
theorem tab_none {hs : Int → Bool} {vl : Int → Int} {j : Int} : (tab hs vl j).isSome = hs j ∧ (tab hs vl j).getD 0 = if hs j then vl j else 0 := by
  unfold tab
  cases hs j <;> simp
theorem v_put {N i : Nat} {ch : Int → List Int} {hs : Int → Bool} {vl : Int → Int} {F : FS} {k v hint : Int} (h : VSt N i ch hs vl F) (hi : i < 20) (k0 : 0 ≤ k) (k1 : k < 30) (hv : is64 v) :
    ∃ F', putR F 0 k v hint = (F', (if hs k then vl k else 0), hs k, none) ∧ ∃ ch', VSt N (i + 1) ch' (fun j => if j = k then true else hs j) (fun j => if j = k then v else vl j) F' ∧ ∀ hs0 vl0 c, Mk F ch hs0 vl0 c → Mk F' ch' hs0 vl0 c := by
  obtain ⟨s1, s2, s3, s4, s5⟩ := h.same
  have hfr := h.free
  have hid : thas F.ts (F.of 0) = true := by rw [s4]; exact h.has_
  have hrg : ∀ j, (vals F j).isSome = true → 0 ≤ j ∧ j < 30 := fun j hj => by
    rw [h.val_, tab_none.1] at hj
    exact h.rng j hj
  have hnf : (vals F k).isSome = true ∨ fullB (takesF F 0 k 2 hint) k = false := by
    cases hq : vals F k with
    | some x => exact .inl rfl
    | none => exact .inr (not_full2 h.ok h.kok h.kr s1 h.keys hrg hint k0 k1 hq)
  obtain ⟨F', e1, e2, e3, e4⟩ := chg_put (n := 0) (key := k) (v := v) (hint := hint) h.ok h.kok rfl hid ⟨k0, by omega⟩ hv (by omega) hnf
  have hK := pgk_put h.ok h.keys h.kok rfl hid ⟨k0, by omega⟩ hv (by omega) hnf e1
  rw [h.val_, tab_none.1, tab_none.2] at e1
  rw [s4] at e2
  refine ⟨F', e1, ?_⟩
  have := v_chg h k0 k1 e2 e3 e4 hK (b := true) (v := v) rfl
  simp only [and_true] at this
  exact this
theorem v_del {N i : Nat} {ch : Int → List Int} {hs : Int → Bool} {vl : Int → Int} {F : FS} {k hint : Int} (h : VSt N i ch hs vl F) (hi : i < 20) (k0 : 0 ≤ k) (k1 : k < 30) :
    ∃ F', delR F 0 k hint = (F', (if hs k then vl k else 0), hs k, none) ∧ ∃ ch', VSt N (i + 1) ch' (fun j => if j = k then false else hs j) vl F' ∧ ∀ hs0 vl0 c, Mk F ch hs0 vl0 c → Mk F' ch' hs0 vl0 c := by
  obtain ⟨s1, s2, s3, s4, s5⟩ := h.same
  have hfr := h.free
  have hid : thas F.ts (F.of 0) = true := by rw [s4]; exact h.has_
  cases hq : hs k with
  | true =>
    have hh : (vals F k).isSome = true := by rw [h.val_, tab_none.1]; exact hq
    obtain ⟨F', e1, e2, e3, e4⟩ := chg_del (n := 0) (key := k) (hint := hint) h.ok h.kok rfl hid ⟨k0, by omega⟩ (by omega) hh
    have hK := pgk_del h.ok h.keys h.kok rfl hid ⟨k0, by omega⟩ (by omega) e1
    rw [h.val_, tab_none.2, hq] at e1
    rw [s4] at e2
    refine ⟨F', e1, ?_⟩
    have := v_chg h k0 k1 e2 e3 e4 hK (b := false) (v := 0) rfl
    simp only [Bool.false_eq_true, and_false, if_false] at this
    exact this
  | false =>
    obtain ⟨t1, t2, t3, t4, t5, t6, t7, t8, t9⟩ := takes_ok (n := 0) (key := k) h.ok h.kok rfl ⟨k0, by omega⟩ hint
    obtain ⟨r1, r2⟩ := takes_same h.ok 0 k 2 hint
    obtain ⟨v1, v2⟩ := page_vals h.ok k
    have hv0 : vals F k = none := by rw [h.val_]; unfold tab; rw [hq]; rfl
    have hrw : ∀ (p : List Int) (hp : ∀ x ∈ p, x ∈ ch 1) (j : Int), rewV (takesF F 0 k 2 hint).S.l p (vals (takesF F 0 k 2 hint)) j = rewV F.S.l p (vals F) j := fun p hp j => by
      rw [show vals (takesF F 0 k 2 hint) = vals F from funext t4, rewV_keep (L := F.S.l) (fun n r hn => by rw [r1]; exact hn) _ _ fun x hx => h.recs x (hp x hx)]
    refine ⟨takesF F 0 k 2 hint, ?_, ch, ⟨t2, t3, ?_, RecsD.take_lt h.kr k1, ⟨s1, s2, s3, s4, r2.trans s5⟩, ?_, h.has_, fun j => ?_, fun j hj => ?_, pgk_takes h.ok h.keys 0 k 2 hint, ?_, fun j => ?_⟩, fun hs0 vl0 c hm => ?_⟩
    · unfold delR
      rw [v1, hv0, if_pos (show (none : Option Int).isSome = false from rfl)]
      rfl
    · have h4 : (takesF F 0 k 2 hint).ks.length ≤ F.ks.length + 1 := t9
      have := h.kl
      omega
    · show _ ≤ F.free
      push_cast
      omega
    · rw [t4, h.val_]
      unfold tab
      by_cases e : j = k
      · simp [e, hq]
      · simp [e]
    · by_cases e : j = k
      · rw [if_pos e] at hj; cases hj
      · rw [if_neg e] at hj; exact h.rng j hj
    · have := h.len
      omega
    · rw [hrw _ (fun x hx => hx) j]
      exact h.all j
    · obtain ⟨p, e1, e2⟩ := hm.at_
      refine ⟨⟨p, e1, fun j => ?_⟩⟩
      rw [hrw p (fun x hx => by rw [e1]; exact List.mem_append_left _ hx) j]
      exact e2 j
structure RSt (N m : Nat) (f : Int → Option Int) (F : FS) : Prop where
  ok : ∃ ch kp, FOk N m ch kp F
  own : ∀ x ∈ F.ks, x.s = 0
  kl : F.ks.length ≤ m
  sess : F.sess = 1
  has_ : thas F.ts (F.of 0) = true
  val_ : ∀ j, vals F j = f j
theorem r_get {N m : Nat} {f : Int → Option Int} {F : FS} (h : RSt N m f F) (key hint : Int) :
    RSt N (m + 1) f (takesF F 0 key 1 hint) ∧ whoL F.ks 0 key 1 = [] ∧ has (cur F.S (placeOf key F.P)).2 key = (f key).isSome ∧ fromOf (cur F.S (placeOf key F.P)).2 key = (f key).getD 0 := by
  obtain ⟨ch, kp, hok⟩ := h.ok
  obtain ⟨r1, r2, r3, r4, r5, r6, r7⟩ := read_ok hok 0 key hint
  refine ⟨⟨⟨ch, kp, r1⟩, s_takeL h.own, ?_, h.sess, h.has_, fun j => (r2 j).trans (h.val_ j)⟩, who_one h.own key 1, by rw [r6, h.val_], by rw [r7, h.val_]⟩
  have h4 : (takesF F 0 key 1 hint).ks.length ≤ F.ks.length + 1 := len_takeL _ _ _ _
  have := h.kl
  omega
theorem v_back {N i : Nat} {ch : Int → List Int} {hs hs0 : Int → Bool} {vl vl0 : Int → Int} {F F2 : FS} {p c : List Int} (h : VSt N i ch hs vl F) (hp : ∀ j, rewV F.S.l p (vals F) j = tab hs0 vl0 j) (hu : UndoR N i ch (fun _ => 2) F 1 p c F2) (hl : p.length ≤ 20) : RSt N (i + 20) (tab hs0 vl0) F2 := by
  obtain ⟨s1, s2, s3, s4, s5⟩ := h.same
  obtain ⟨r1, r2, r3, r4, r5, r6, r7⟩ := hu.same
  refine ⟨⟨_, _, FOk.loosen hu.ok (by omega)⟩, fun x hx => ?_, ?_, r2.trans s2, by rw [r5, s4]; exact hu.has_, fun j => (hu.vals_ j).trans (hp j)⟩
  · rw [r3] at hx
    exact (h.kok.own x hx).symm
  · rw [r3]
    have := h.kl
    omega
theorem v_abort {N i : Nat} {ch : Int → List Int} {hs : Int → Bool} {vl : Int → Int} {F F2 : FS} (h : VSt N i ch hs vl F) (hi : i ≤ 20) (hu : AbortR N i ch (fun _ => 2) F 0 1 F2) :
    FOk N (i + 20) (updc ch 1 []) (updk (fun _ => 2) 1 1) F2 ∧ F2.of 0 = 0 ∧ F2.sess = 1 ∧ F2.most = 1 ∧ 3 ≤ F2.free ∧ RSt N (i + 20) (fun _ => none) (beginF F2 0) := by
  obtain ⟨s1, s2, s3, s4, s5⟩ := h.same
  obtain ⟨r1, r2, r3, r4, r5, r6, r7⟩ := hu.same
  have hlen := h.len
  have hok := FOk.loosen hu.ok (show i + (ch 1).length ≤ i + 20 by omega)
  have hof : F2.of 0 = 0 := by rw [r5]; rfl
  have hm : F2.most = 1 := r4.trans s3
  have hse : F2.sess = 1 := r2.trans s2
  have hfr : 3 ≤ F2.free := by
    rw [r6]
    have := h.free
    omega
  have hb := begin_ok (n := 0) hok (by rw [hm]; rfl) (by decide) (by rw [hse]; decide) hof hfr (by rw [hm]; decide)
  rw [hm] at hb
  refine ⟨hok, hof, hse, hm, hfr, ⟨⟨_, _, hb⟩, fun x hx => ?_, ?_, hse, ?_, fun j => ?_⟩⟩
  · have hk : (beginF F2 0).ks = [] := r3
    rw [hk] at hx
    exact (List.not_mem_nil hx).elim
  · have hk : (beginF F2 0).ks = [] := r3
    rw [hk]
    exact Nat.zero_le _
  · have ho : (beginF F2 0).of 0 = 2 := by
      show upd F2.of 0 (F2.most + 1) 0 = 2
      unfold upd
      rw [if_pos rfl, hm]
      rfl
    have := (hb.t.ofs 0 (by rw [ho]; decide)).2.2
    exact this
  · show vals F2 j = none
    rw [hu.vals_ j]
    exact h.all j
end Go.Proofs.YtaplpeoikebedaaGreatDoor.ValD
