/- Joined texts: Rw, Del, Ins, Dirty, SysD, Dirty2. -/
import Derived.Test.YtlgpkbhajloajaaDoorJ1
import Derived.Deep.RegionLaw
import Derived.Lib.SliceRun
import Derived.Laws.IdiomCopy
import Derived.Test.YtlgpkbhajloajaaDoorJ3
import Derived.Lib.Overlaps
import Derived.Laws.Externs
import Derived.Lib.AppendZeros
import Derived.Test.YtlgpkbhajloajaaDoorJ2
/- Rows of cells: several cells written, a row cut. No condition. -/
namespace Go.Proofs.YtlgpkbhajloajaaDoor.Rw
open Go.RowKit Go.Proofs.YtlgpkbhajloajaaDoorW.PrintWords Go.Proofs.YtlgpkbhajloajaaDoorW.PrintLast Go.Proofs.YtlgpkbhajloajaaDoorW.PrintMore
open Go.Proofs.YtlgpkbhajloajaaDoor.See Go.Proofs.YtlgpkbhajloajaaDoor.Mem
set_option linter.unusedVariables false
set_option linter.unusedSimpArgs false

/-- Some cells of a list written anew. -/
def setL : List Value → Nat → List Value → List Value
  | xs, _, [] => xs
  | xs, o, v :: vs => setL (xs.set o v) (o + 1) vs

theorem setL_len : ∀ (vs : List Value) (xs : List Value) (o : Nat), (setL xs o vs).length = xs.length
  | [], xs, o => rfl
  | v :: vs, xs, o => by unfold setL; rw [setL_len vs]; simp

theorem setL_eq : ∀ (vs : List Value) (xs : List Value) (o : Nat), o + vs.length ≤ xs.length → setL xs o vs = xs.take o ++ (vs ++ xs.drop (o + vs.length))
  | [], xs, o, _ => by simp [setL]
  | v :: vs, xs, o, h => by
    simp only [List.length_cons] at h
    unfold setL
    rw [setL_eq vs (xs.set o v) (o + 1) (by simp; omega)]
    have h1 : (xs.set o v).take (o + 1) = xs.take o ++ [v] := by
      rw [List.take_succ_eq_append_getElem (by simp; omega)]
      simp [List.take_set_of_le]
    have h2 : (xs.set o v).drop (o + 1 + vs.length) = xs.drop (o + (vs.length + 1)) := by
      rw [List.drop_set_of_lt (by omega)]
      congr 1
      omega
    rw [h1, h2]
    simp

theorem own_setCells {base e size n g cap : Nat} : ∀ (vs : List Value) (o : Nat) (w : World) (xs : List Value), w.ownsRow base e size (.slice (some ⟨g, 0, none⟩) n cap) n xs →
    (w.setCells g o vs).ownsRow base e size (.slice (some ⟨g, 0, none⟩) n cap) n (setL xs o vs) ∧ w.grownBy (w.setCells g o vs) (some g)
  | [], o, w, xs, h => ⟨h, ⟨rfl, rfl, rfl, Nat.le_refl _, fun _ _ _ => rfl⟩⟩
  | v :: vs, o, w, xs, h => by
    obtain ⟨h1, g1⟩ := h.stored o v
    obtain ⟨h2, g2⟩ := own_setCells vs (o + 1) _ _ h1
    exact ⟨h2, g1.trans g2⟩

theorem own_cut {w : World} {base e size n m g cap : Nat} {xs : List Value} (h : w.ownsRow base e size (.slice (some ⟨g, 0, none⟩) n cap) n xs) (hm : m ≤ n) : w.ownsRow base e size (.slice (some ⟨g, 0, none⟩) m cap) m (xs.take (m * size)) := by
  obtain ⟨h1, h2⟩ := h
  have hle : m * size ≤ n * size := Nat.mul_le_mul_right _ hm
  refine ⟨by rw [List.length_take, h1]; omega, ?_⟩
  rcases h2 with ⟨h2, _⟩ | ⟨g', cap', cur, hv, hg, hh, hnc, hcm, hsz, htk⟩
  · cases h2
  · simp at hv
    obtain ⟨rfl, rfl⟩ := hv
    exact .inr ⟨g, cap, cur, rfl, hg, hh, by omega, hcm, hsz, by rw [← htk, List.take_take, Nat.min_eq_left hle]⟩

theorem own_drew {w : World} {base e size n : Nat} {v : Value} {xs : List Value} (h : w.ownsRow base e size v n xs) : w.drew.ownsRow base e size v n xs := h

end Go.Proofs.YtlgpkbhajloajaaDoor.Rw
/- The contracts of slices.Delete of one element of a row of its own. No condition. -/
namespace Go.Proofs.YtlgpkbhajloajaaDoor.Del
open Go.RowKit Go.Proofs.YtlgpkbhajloajaaDoorW.PrintWords Go.Proofs.YtlgpkbhajloajaaDoorW.PrintLast Go.Proofs.YtlgpkbhajloajaaDoorW.PrintMore
open Go.Proofs.YtlgpkbhajloajaaDoor.See Go.Proofs.YtlgpkbhajloajaaDoor.Mem Go.Proofs.YtlgpkbhajloajaaDoor.Clone Go.Proofs.YtlgpkbhajloajaaDoor.Rw
set_option linter.unusedVariables false
set_option linter.unusedSimpArgs false

theorem clear_one {P : Program} (w : World) (t e ty : TypeId) (z : Value) (zs : List Value) (ht : P.underlying t = some (.slice e)) (hv : ∀ w, (zeroValue e).run P w = .ok z w) (hz : z.cells.toList = zs) (h1 : ∀ u ∈ zs, u.oneCell' = true) (b o c : Nat)
    (hc : ∀ j, j < zs.length → (w.cell? ⟨b, o + j, none⟩).isSome = true) (hf : ∀ j, j < zs.length → w.frozen? ⟨b, o + j, none⟩ = false) :
    (Builtin.clear_ #[t] ty #[.slice (some ⟨b, o, none⟩) 1 c]).run P w = .ok (.tuple #[]) (w.setCells b o zs) := by
  have hzc : (Builtin.zeroCells z.cells 1).toList = zs := by
    rw [← hz]
    unfold Builtin.zeroCells
    apply List.ext_getElem
    · simp
    · intro i h1 h2
      simp at h1 h2 ⊢
      simp [Nat.mod_eq_of_lt h2, h2]
  have hst := run_storeCells_cells (P := P) b o zs 0 w (by simpa using hc) (by simpa using hf) h1
  simp only [Nat.add_zero] at hst
  simp [Builtin.clear_, run_underlying ht, hv, hzc, hst]

theorem setL_past : ∀ (vs : List Value) (xs : List Value) (o : Nat), xs.length ≤ o → setL xs o vs = xs
  | [], xs, o, _ => rfl
  | v :: vs, xs, o, h => by
    unfold setL
    rw [List.set_eq_of_length_le h, setL_past vs xs (o + 1) (by omega)]

/-- What is known of an owned row's cells. -/
theorem own_cells {w : World} {base e size n g cap : Nat} {xs : List Value} (h : w.ownsRow base e size (.slice (some ⟨g, 0, none⟩) n cap) n xs) :
    (∀ j, j < cap * size → (w.cell? ⟨g, j, none⟩).isSome = true) ∧ (∀ j, w.frozen? ⟨g, j, none⟩ = false) ∧ (∀ j u, xs[j]? = some u → w.cell? ⟨g, j, none⟩ = some u) ∧ n ≤ cap ∧ cap ≤ maxLen := by
  rcases h.2 with ⟨h2, _⟩ | ⟨g', cap', cur, hv, hg, hh, hnc, hcm, hsz, htk⟩
  · cases h2
  · simp at hv
    obtain ⟨rfl, rfl⟩ := hv
    refine ⟨fun j hj => ?_, fun j => by simp [World.frozen?, hh], fun j u hj => ?_, hnc, hcm⟩
    · simp only [World.cell?, hh]
      simp [hsz, hj]
    · have hlt : j < n * size := by have := (List.getElem?_eq_some_iff.1 hj).1; rw [h.1] at this; exact this
      rw [h.cellAt j hlt]; exact hj

theorem setCells_other {w : World} {g k : Nat} (hk : k ≠ g) : ∀ (vs : List Value) (o : Nat), (w.setCells g o vs).heap[k]? = w.heap[k]? := by
  intro vs
  induction vs generalizing w with
  | nil => intro o; rfl
  | cons v vs ih =>
    intro o
    show ((w.setCell ⟨g, o, none⟩ v).setCells g (o + 1) vs).heap[k]? = _
    rw [ih, Below.heap_setCell _ _ _ _ (by exact hk)]

theorem setCells_size {w : World} {g : Nat} : ∀ (vs : List Value) (o : Nat), (w.setCells g o vs).heap.size = w.heap.size := by
  intro vs
  induction vs generalizing w with
  | nil => intro o; rfl
  | cons v vs ih =>
    intro o
    show ((w.setCell ⟨g, o, none⟩ v).setCells g (o + 1) vs).heap.size = _
    rw [ih]; simp [World.setCell]

theorem flatten_cut (xs : List Value) (n i size : Nat) (h : xs.length = n * size) (hi : i < n) :
    (setL xs (i * size) (xs.drop ((i + 1) * size))).take ((n - 1) * size) = xs.take (i * size) ++ xs.drop ((i + 1) * size) := by
  have h1 : (i + 1) * size ≤ n * size := Nat.mul_le_mul_right _ hi
  have h2 : (i + 1) * size = i * size + size := by rw [Nat.add_mul]; omega
  have h3 : (n - 1) * size + size = n * size := by
    obtain ⟨m, rfl⟩ : ∃ m, n = m + 1 := ⟨n - 1, by omega⟩
    rw [Nat.add_mul]; simp
  have hl : (xs.drop ((i + 1) * size)).length = n * size - (i + 1) * size := by rw [List.length_drop, h]
  rw [setL_eq _ _ _ (by rw [hl, h]; omega), ← List.append_assoc, List.take_append_of_le_length (by rw [List.length_append, hl, List.length_take, h]; omega)]
  exact List.take_of_length_le (by rw [List.length_append, hl, List.length_take, h]; omega)

theorem dinfo_frames : (Tryd.prog.info? 74).map (fun i => (i.zero, i.size, i.bytes)) = some (some (.agg #[.int .i64 0, .int .i64 0, .slice none 0 0]), 3, 40) := by kernel_rfl
theorem dzero_frames (w : World) : (zeroValue 74).run Tryd.prog w = .ok (.agg #[.int .i64 0, .int .i64 0, .slice none 0 0]) w := by kernel_rfl

set_option maxHeartbeats 4000000 in
set_option maxRecDepth 100000 in
theorem del_frames (base g n cap i j : Nat) (xs : List Value) (w : World) (hown : w.ownsRow base 74 3 (.slice (some ⟨g, 0, none⟩) n cap) n xs) (h1 : ∀ u ∈ xs, u.oneCell' = true) (hi : i < n) (hj : j = i + 1) :
    Calls Tryd.prog 57 #[.slice (some ⟨g, 0, none⟩) n cap, .int .i64 i, .int .i64 j] w fun e w' => e = .returned (.slice (some ⟨g, 0, none⟩) (n - 1) cap) ∧ w'.ownsRow base 74 3 (.slice (some ⟨g, 0, none⟩) (n - 1) cap) (n - 1) (xs.take (i * 3) ++ xs.drop ((i + 1) * 3)) ∧ w.grownBy w' (some g) ∧ w'.heap.size = w.heap.size := by
  obtain ⟨i0, hi0, hzz⟩ := Option.map_eq_some_iff.1 dinfo_frames
  simp only [Prod.mk.injEq] at hzz
  obtain ⟨hz0, hz1, hz2⟩ := hzz
  obtain ⟨hcs, hfz, hrd, hnc, hcm⟩ := own_cells hown
  have hlen := hown.1
  have hcm2 : cap ≤ 9223372036854775807 := by unfold maxLen at hcm; exact hcm
  obtain ⟨news, hnews⟩ : ∃ news, news = xs.drop ((i + 1) * 3) := ⟨_, rfl⟩
  have hnl : news.length = (n - j) * 3 := by rw [hnews, List.length_drop, hlen]; omega
  obtain ⟨A, hA, hsrc⟩ : ∃ A : Addr, (if cap = j then (some ⟨g, 0, none⟩ : Option Addr) else some ⟨g, j * 3, none⟩) = some A ∧ Hid (∀ t u, news[t]? = some u → w.drew.cell? (A.add t) = some u) := by
    by_cases h : cap = j
    · refine ⟨⟨g, 0, none⟩, by simp [h], fun t u hu => ?_⟩
      have h0 : news.length = 0 := by rw [hnl]; omega
      rw [List.length_eq_zero_iff.1 h0] at hu
      simp at hu
    · refine ⟨⟨g, j * 3, none⟩, by simp [h], fun t u hu => ?_⟩
      rw [Addr.add_lit]
      refine hrd (j * 3 + t) u ?_
      rw [hnews, List.getElem?_drop] at hu
      rw [hj]; exact hu
  have s1 : Hid (news.length = (n - j) * 3) := hnl
  have s2 : Hid (∀ u ∈ news, u.oneCell' = true) := fun u hu => h1 u (by rw [hnews] at hu; exact List.mem_of_mem_drop hu)
  have s3 : Hid (∀ t, t < news.length → (w.drew.cell? ⟨g, 0 + i * 3 + t, none⟩).isSome = true ∧ w.drew.frozen? ⟨g, 0 + i * 3 + t, none⟩ = false) := by
    intro t ht
    rw [hnl] at ht
    exact ⟨hcs _ (by have : (i + (n - j)) * 3 ≤ cap * 3 := Nat.mul_le_mul_right _ (by omega); omega), hfz _⟩
  obtain ⟨W1, hW1⟩ : ∃ W1, W1 = w.drew.setCells g (0 + i * 3) news := ⟨_, rfl⟩
  have hO1 : W1.ownsRow base 74 3 (.slice (some ⟨g, 0, none⟩) n cap) n (setL xs (i * 3) news) ∧ w.grownBy W1 (some g) := by
    rw [hW1, Nat.zero_add]
    obtain ⟨o1, o2⟩ := own_setCells news (i * 3) w.drew xs hown
    exact ⟨o1, o2.os, o2.tape, o2.output, o2.size, o2.block⟩
  obtain ⟨hcs1, hfz1, _, _, _⟩ := own_cells hO1.1
  have hcl : ∀ ty, (Builtin.clear_ #[77] ty #[.slice (some ⟨g, (i + (n - j)) * 3, none⟩) (n - (i + (n - j))) (cap - (i + (n - j)))]).run Tryd.prog W1 = .ok (.tuple #[]) (W1.setCells g ((i + (n - j)) * 3) [.int .i64 0, .int .i64 0, .slice none 0 0]) := fun ty => by
    rw [show n - (i + (n - j)) = 1 from by omega]
    exact clear_one W1 77 74 ty (.agg #[.int .i64 0, .int .i64 0, .slice none 0 0]) [.int .i64 0, .int .i64 0, .slice none 0 0] Tryd.underlying77 dzero_frames rfl (by intro u hu; simp at hu; rcases hu with rfl | rfl | rfl <;> rfl) g _ _ (fun t ht => hcs1 _ (by simp at ht; have : (i + (n - j) + 1) * 3 ≤ cap * 3 := Nat.mul_le_mul_right _ (by omega); omega)) (fun t ht => hfz1 _)
  have hW : Hid (W1 = w.drew.setCells g (0 + i * 3) news) := hW1
  have HO1 := Aside0.mk hO1
  have HN := Aside0.mk hnews
  have HL := Aside0.mk hlen
  have HJ := Aside0.mk hj
  have hij : i < j := by omega
  have hij2 : i ≤ j := by omega
  have hjn : j ≤ n := by omega
  have hic : i ≤ cap := by omega
  have hjc : j ≤ cap := by omega
  clear hW1 hO1 hown h1 hcs hfz hrd hcs1 hfz1 hnews hlen hnl hj hcm
  go_enter Tryd.func57, Tryd.ntmps57
  go_wp2_with fail
  go_region_law (refine step_append_room rfl (.tmp 22) (.tmp 25) 77 rfl 74 i0 3 Tryd.underlying77 hi0 hz1 g 0 i cap (by simp [Act.eval, Act.put]) A (n - j) (cap - j) news (by simp [Act.eval, Act.put]) s1.out hsrc.out s2.out (by omega) s3.out ?_; rw [← hW.out])
  go_wp2
  go_ret
  obtain ⟨o1, o2⟩ := HO1.out
  have hjj := HJ.out
  obtain ⟨o3, o4⟩ := own_setCells [.int .i64 0, .int .i64 0, .slice none 0 0] ((i + (n - j)) * 3) W1 _ (own_cut o1 (show n - 1 ≤ n by omega))
  refine ⟨by rw [show i + (n - j) = n - 1 from by omega]; simp, ?_, ?_, ?_⟩
  · rw [setL_past _ _ _ (by rw [List.length_take, setL_len, HL.out, show i + (n - j) = n - 1 from by omega]; omega), HN.out, flatten_cut xs n i 3 HL.out hi] at o3
    exact o3
  · exact o2.trans o4
  · rw [setCells_size, hW.out, setCells_size]; rfl

theorem dinfo_dirties : (Tryd.prog.info? 57).map (fun i => (i.zero, i.size, i.bytes)) = some (some (.agg #[.int .i64 0, .int .i64 0]), 2, 16) := by kernel_rfl
theorem dzero_dirties (w : World) : (zeroValue 57).run Tryd.prog w = .ok (.agg #[.int .i64 0, .int .i64 0]) w := by kernel_rfl

set_option maxHeartbeats 4000000 in
set_option maxRecDepth 100000 in
theorem del_dirties (base g n cap i j : Nat) (xs : List Value) (w : World) (hown : w.ownsRow base 57 2 (.slice (some ⟨g, 0, none⟩) n cap) n xs) (h1 : ∀ u ∈ xs, u.oneCell' = true) (hi : i < n) (hj : j = i + 1) :
    Calls Tryd.prog 69 #[.slice (some ⟨g, 0, none⟩) n cap, .int .i64 i, .int .i64 j] w fun e w' => e = .returned (.slice (some ⟨g, 0, none⟩) (n - 1) cap) ∧ w'.ownsRow base 57 2 (.slice (some ⟨g, 0, none⟩) (n - 1) cap) (n - 1) (xs.take (i * 2) ++ xs.drop ((i + 1) * 2)) ∧ w.grownBy w' (some g) ∧ w'.heap.size = w.heap.size := by
  obtain ⟨i0, hi0, hzz⟩ := Option.map_eq_some_iff.1 dinfo_dirties
  simp only [Prod.mk.injEq] at hzz
  obtain ⟨hz0, hz1, hz2⟩ := hzz
  obtain ⟨hcs, hfz, hrd, hnc, hcm⟩ := own_cells hown
  have hlen := hown.1
  have hcm2 : cap ≤ 9223372036854775807 := by unfold maxLen at hcm; exact hcm
  obtain ⟨news, hnews⟩ : ∃ news, news = xs.drop ((i + 1) * 2) := ⟨_, rfl⟩
  have hnl : news.length = (n - j) * 2 := by rw [hnews, List.length_drop, hlen]; omega
  obtain ⟨A, hA, hsrc⟩ : ∃ A : Addr, (if cap = j then (some ⟨g, 0, none⟩ : Option Addr) else some ⟨g, j * 2, none⟩) = some A ∧ Hid (∀ t u, news[t]? = some u → w.drew.cell? (A.add t) = some u) := by
    by_cases h : cap = j
    · refine ⟨⟨g, 0, none⟩, by simp [h], fun t u hu => ?_⟩
      have h0 : news.length = 0 := by rw [hnl]; omega
      rw [List.length_eq_zero_iff.1 h0] at hu
      simp at hu
    · refine ⟨⟨g, j * 2, none⟩, by simp [h], fun t u hu => ?_⟩
      rw [Addr.add_lit]
      refine hrd (j * 2 + t) u ?_
      rw [hnews, List.getElem?_drop] at hu
      rw [hj]; exact hu
  have s1 : Hid (news.length = (n - j) * 2) := hnl
  have s2 : Hid (∀ u ∈ news, u.oneCell' = true) := fun u hu => h1 u (by rw [hnews] at hu; exact List.mem_of_mem_drop hu)
  have s3 : Hid (∀ t, t < news.length → (w.drew.cell? ⟨g, 0 + i * 2 + t, none⟩).isSome = true ∧ w.drew.frozen? ⟨g, 0 + i * 2 + t, none⟩ = false) := by
    intro t ht
    rw [hnl] at ht
    exact ⟨hcs _ (by have : (i + (n - j)) * 2 ≤ cap * 2 := Nat.mul_le_mul_right _ (by omega); omega), hfz _⟩
  obtain ⟨W1, hW1⟩ : ∃ W1, W1 = w.drew.setCells g (0 + i * 2) news := ⟨_, rfl⟩
  have hO1 : W1.ownsRow base 57 2 (.slice (some ⟨g, 0, none⟩) n cap) n (setL xs (i * 2) news) ∧ w.grownBy W1 (some g) := by
    rw [hW1, Nat.zero_add]
    obtain ⟨o1, o2⟩ := own_setCells news (i * 2) w.drew xs hown
    exact ⟨o1, o2.os, o2.tape, o2.output, o2.size, o2.block⟩
  obtain ⟨hcs1, hfz1, _, _, _⟩ := own_cells hO1.1
  have hcl : ∀ ty, (Builtin.clear_ #[54] ty #[.slice (some ⟨g, (i + (n - j)) * 2, none⟩) (n - (i + (n - j))) (cap - (i + (n - j)))]).run Tryd.prog W1 = .ok (.tuple #[]) (W1.setCells g ((i + (n - j)) * 2) [.int .i64 0, .int .i64 0]) := fun ty => by
    rw [show n - (i + (n - j)) = 1 from by omega]
    exact clear_one W1 54 57 ty (.agg #[.int .i64 0, .int .i64 0]) [.int .i64 0, .int .i64 0] Tryd.underlying54 dzero_dirties rfl (by intro u hu; simp at hu; rcases hu with rfl | rfl <;> rfl) g _ _ (fun t ht => hcs1 _ (by simp at ht; have : (i + (n - j) + 1) * 2 ≤ cap * 2 := Nat.mul_le_mul_right _ (by omega); omega)) (fun t ht => hfz1 _)
  have hW : Hid (W1 = w.drew.setCells g (0 + i * 2) news) := hW1
  have HO1 := Aside0.mk hO1
  have HN := Aside0.mk hnews
  have HL := Aside0.mk hlen
  have HJ := Aside0.mk hj
  have hij : i < j := by omega
  have hij2 : i ≤ j := by omega
  have hjn : j ≤ n := by omega
  have hic : i ≤ cap := by omega
  have hjc : j ≤ cap := by omega
  clear hW1 hO1 hown h1 hcs hfz hrd hcs1 hfz1 hnews hlen hnl hj hcm
  go_enter Tryd.func69, Tryd.ntmps69
  go_wp2_with fail
  go_region_law (refine step_append_room rfl (.tmp 22) (.tmp 25) 54 rfl 57 i0 2 Tryd.underlying54 hi0 hz1 g 0 i cap (by simp [Act.eval, Act.put]) A (n - j) (cap - j) news (by simp [Act.eval, Act.put]) s1.out hsrc.out s2.out (by omega) s3.out ?_; rw [← hW.out])
  go_wp2
  go_ret
  obtain ⟨o1, o2⟩ := HO1.out
  have hjj := HJ.out
  obtain ⟨o3, o4⟩ := own_setCells [.int .i64 0, .int .i64 0] ((i + (n - j)) * 2) W1 _ (own_cut o1 (show n - 1 ≤ n by omega))
  refine ⟨by rw [show i + (n - j) = n - 1 from by omega]; simp, ?_, ?_, ?_⟩
  · rw [setL_past _ _ _ (by rw [List.length_take, setL_len, HL.out, show i + (n - j) = n - 1 from by omega]; omega), HN.out, flatten_cut xs n i 2 HL.out hi] at o3
    exact o3
  · exact o2.trans o4
  · rw [setCells_size, hW.out, setCells_size]; rfl



end Go.Proofs.YtlgpkbhajloajaaDoor.Del
/- The contracts of slices.Insert of one element into a row of its own. No condition. -/
namespace Go.Proofs.YtlgpkbhajloajaaDoor.Ins
open Go.RowKit Go.Proofs.YtlgpkbhajloajaaDoorW.PrintWords Go.Proofs.YtlgpkbhajloajaaDoorW.PrintLast Go.Proofs.YtlgpkbhajloajaaDoorW.PrintMore
open Go.Proofs.YtlgpkbhajloajaaDoor.See Go.Proofs.YtlgpkbhajloajaaDoor.Mem Go.Proofs.YtlgpkbhajloajaaDoor.Clone Go.Proofs.YtlgpkbhajloajaaDoor.Rw Go.Proofs.YtlgpkbhajloajaaDoor.Del Go.Proofs.YtlgpkbhajloajaaDoor.Fill
set_option linter.unusedVariables false
set_option linter.unusedSimpArgs false

/-- append(v, make([]T, m)...) where there is no room: a row of its own. -/
theorem zeros_grow {P : Program} (w : World) (base : Nat) (t ti ty e : TypeId) (i : TypeInfo) (z : Value) (size bytes : Nat) (ht : P.underlying t = some (.slice e)) {k : IntKind} (hti : P.underlying ti = some (.int k)) (hi : P.info? e = some i) (hz : i.zero = some z)
    (hsize : i.size = size) (hby : i.bytes = bytes) (hzs : z.cells.size = size) (hsz : 0 < size) (hb0 : 0 < bytes)
    (g n cap : Nat) (xs : List Value) (hown : w.ownsRow base e size (.slice (some ⟨g, 0, none⟩) n cap) n xs) (kx : IntKind) (m : Nat) (hm : 0 < m) (hcap : cap < n + m) (h1 : ∀ u ∈ (Builtin.zeroCells z.cells m).toList, u.oneCell' = true)
    (hbytes : (n + m) * bytes ≤ 140737488355328) (hbase : base ≤ w.heap.size) :
    ∃ c' w', (Builtin.append_ #[t, ti] ty #[.slice (some ⟨g, 0, none⟩) n cap, .int kx m]).run P w = .ok (.slice (some ⟨w.heap.size, 0, none⟩) (n + m) c') w' ∧
      w'.ownsRow base e size (.slice (some ⟨w.heap.size, 0, none⟩) (n + m) c') (n + m) (xs ++ (Builtin.zeroCells z.cells m).toList) ∧ w.grownBy w' none := by
  subst hsize
  subst hby
  have hle : n + m ≤ 140737488355328 := Nat.le_trans (Nat.le_mul_of_pos_right _ hb0) hbytes
  have h63 : n + m ≤ maxLen := by simp only [maxLen]; omega
  have hw : IntKind.i64.wrap (m : Int) = m := by rw [IntKind.wrap_i64]; omega
  have hneg : ¬ ((m : Int) < 0) := by omega
  have hmb : m * i.bytes ≤ 140737488355328 := Nat.le_trans (Nat.mul_le_mul_right _ (Nat.le_add_left m n)) hbytes
  have hbig : ¬ (281474976710656 < (m : Int) * (i.bytes : Int)) := by
    rw [← Int.natCast_mul]
    omega
  have hsn : i.size ≠ 0 := by omega
  obtain ⟨news, hnews⟩ : ∃ news, news = (Builtin.zeroCells z.cells m).toList := ⟨_, rfl⟩
  rw [← hnews] at h1 ⊢
  have hl : news.length = m * i.size := by rw [hnews, Array.length_toList, size_zeroCells, hzs]
  have hna : Builtin.zeroCells z.cells m = news.toArray := by rw [hnews]
  have hlen : (xs ++ news).length = (n + m) * i.size := by rw [List.length_append, hown.1, hl, Nat.add_mul]
  have hge := grownCap_ge w (n + m) cap e
  have hcm : grownCap w (n + m) cap e ≤ maxLen := grownCap_le_maxLen w (n + m) cap e h63
  have holds : ∀ j u, xs[j]? = some u → w.cell? ((⟨g, 0, none⟩ : Addr).add j) = some u := hown.cells (g := g) rfl
  have hfo : (Builtin.firstCells i.size n (.slice (some ⟨g, 0, none⟩) n cap)).run P w.drew = .ok xs.toArray w.drew := run_firstCells_some (P := P) w.drew i.size n _ n cap xs hown.1 (by simpa using holds)
  have hn : ¬ (n + m ≤ cap) := by omega
  have h63' : ¬ (9223372036854775807 < ((n : Int) + (m : Int))) := by omega
  have hfit := growslice_fits hcap hbytes
  have h48' : ¬ (281474976710656 < Builtin.nextslicecap (n + m) cap * i.bytes) := by omega
  have hmz : ¬ (m * i.size = 0) := Nat.mul_ne_zero (by omega) hsn
  refine ⟨grownCap w (n + m) cap e, w.drew.alloc (.cells (xs.toArray ++ news.toArray ++ Builtin.zeroCells z.cells (grownCap w (n + m) cap e - (n + m))) e), ?_, ⟨hlen, .inr ⟨w.heap.size, _, _, rfl, hbase, heap_alloc_new w.drew _, hge, hcm, ?_, ?_⟩⟩, ⟨rfl, rfl, rfl, by simp, fun k hk _ => heap_alloc_old w.drew _ hk⟩⟩
  · simp [Builtin.append_, run_underlying ht, run_underlying hti, sizeOf, typeInfo, zeroValue, hi, hz, asInt, asIntOf, hw, hneg, hbig, hn, h63', h48', Question.forced, hfo, newRow, grownCap, hmz, hna]
    congr 2
    apply Array.ext'
    simp [List.append_assoc]
  · simp only [Array.size_append, List.size_toArray, size_zeroCells, hzs, hown.1, hl, ← Nat.add_mul]
    congr 1
    omega
  · simp only [Array.toList_append, List.append_assoc]
    rw [← List.append_assoc, ← hlen]
    exact List.take_left

/-- copy, whatever the element's size. -/
theorem copy_cells {P : Program} (w : World) (dT sT ty elem : TypeId) (size : Nat) (b o dLen dCap : Nat) (a : Addr) (sLen sCap : Nat) (cs : List Value)
    (hu : P.underlying dT = some (.slice elem)) (hs : (P.info? elem).map (·.size) = some size) (hn : cs.length = Nat.min sLen dLen * size) (m : Nat) (hm : Nat.min sLen dLen = m)
    (hsrc : ∀ j v, cs[j]? = some v → w.cell? (a.add j) = some v) (hc : ∀ j, j < cs.length → (w.cell? ⟨b, o + j, none⟩).isSome = true) (hf : ∀ j, j < cs.length → w.frozen? ⟨b, o + j, none⟩ = false) (h1 : ∀ v ∈ cs, v.oneCell' = true) :
    (Builtin.copy_ #[dT, sT] ty #[.slice (some ⟨b, o, none⟩) dLen dCap, .slice (some a) sLen sCap]).run P w = .ok (goInt m) (w.setCells b o cs) := by
  have hl := run_loadCells_list (P := P) w a cs hsrc
  have hst := run_storeCells_cells (P := P) b o cs 0 w (by simpa using hc) (by simpa using hf) h1
  subst hm
  cases hq : P.info? elem with
  | none => simp [hq] at hs
  | some i =>
    have hi : i.size = size := by simpa [hq] using hs
    simp [Builtin.copy_, run_underlying hu, Builtin.lenOf, Builtin.firstCells, sizeOf, typeInfo, hq, hi, ← hn, hl, hst]

theorem wpList_copy_run {P : Program} (w : World) {ops : Array Oper} {rest : List Oper} {o : Oper} {a : Act} {Q : Exit → Act → World → Prop} (hgd : o.guard = none) (d s : Operand) (t t' : TypeId)
    (ho : o.op = .call { callee := .builtin .copy, args := #[d, s], argTypes := #[t, t'] }) (v u : Value) (hd : a.eval d = v) (hs : a.eval s = u) {v' : Value} {w' : World}
    (hr : (Builtin.copy_ #[t, t'] o.type #[v, u]).run P w = .ok v' w') (h : wpList P ops Q rest (a.put o.dst v') w') : wpList P ops Q (o :: rest) a w :=
  wpList_plain hgd fun _ hK => by
    unfold Oper.wp execOp
    simp only [ho, resolve, invoke, builtin, Sem.run_bind, Sem.run_pure, Result.andThen_ok, List.map_toArray, List.map_cons, List.map_nil, hd, hs, hr]
    exact hK _ _ h

theorem step_copy_run {P : Program} {ops : Array Oper} {o : Oper} {a : Act} {w : World} {K : Act → World → Prop} {Q : Exit → Act → World → Prop} {E : Prop}
    (hg : o.guard = none) (d x : Operand) (dT sT : TypeId) (hop : o.op = Op.call { callee := Callee.builtin Builtin.copy, args := #[d, x], argTypes := #[dT, sT] })
    (v u : Value) (hd : a.eval d = v) (hx : a.eval x = u) {v' : Value} {w' : World} (hr : (Builtin.copy_ #[dT, sT] o.type #[v, u]).run P w = .ok v' w') (hK : K (a.put o.dst v') w') :
    if Region.wanted o (yielded ops a.tmps) = true then Oper.wp P o a w K Q else E := by
  have hw : Region.wanted o (yielded ops a.tmps) = true := by simp [Region.wanted, hg]
  rw [if_pos hw]
  unfold Oper.wp
  simp [execOp, hop, resolve, invoke, builtin, hd, hx, hr, Result.andThen]
  exact hK

theorem ins_grow_gen (A zs ns D : List Value) (a s : Nat) (hA : A.length = a) (hz : zs.length = s + D.length) (hn : ns.length = s) : setL (setL (A ++ zs) a ns) (a + s) D = A ++ (ns ++ D) := by
  subst hA hn
  rw [setL_eq ns _ _ (by rw [List.length_append, hz]; omega), List.take_left, show (A ++ zs).drop (A.length + ns.length) = zs.drop ns.length from by rw [List.drop_append, List.drop_of_length_le (by omega)]; simp]
  rw [setL_eq D _ _ (by simp only [List.length_append, List.length_drop, hz]; omega)]
  rw [show (A ++ (ns ++ zs.drop ns.length)).take (A.length + ns.length) = A ++ ns from by rw [← List.append_assoc]; exact List.take_left' (by rw [List.length_append])]
  rw [List.drop_of_length_le (by simp only [List.length_append, List.length_drop, hz]; omega)]
  simp

theorem ins_grow_eq (xs zs ns : List Value) (n i size : Nat) (hx : xs.length = n * size) (hz : zs.length = (n + 1 - i) * size) (hn : ns.length = size) (hi : i < n) :
    setL (setL (xs.take (i * size) ++ zs) (i * size) ns) ((i + 1) * size) (xs.drop (i * size)) = xs.take (i * size) ++ (ns ++ xs.drop (i * size)) := by
  have h1 : i * size ≤ n * size := Nat.mul_le_mul_right _ (by omega)
  have h2 : (i + 1) * size = i * size + size := by rw [Nat.add_mul]; omega
  have h3 : (n + 1 - i) * size + i * size = n * size + size := by rw [← Nat.add_mul, show n + 1 - i + i = n + 1 from by omega, Nat.add_mul]; omega
  rw [h2]
  exact ins_grow_gen _ _ _ _ _ _ (by rw [List.length_take, hx]; omega) (by rw [hz, List.length_drop, hx]; omega) hn

theorem ins_shift_eq (xs ys ns : List Value) (n i size : Nat) (hx : xs.length = n * size) (hy : ys.length = (n + 1) * size) (hyx : ys.take (n * size) = xs) (hn : ns.length = size) (hi : i < n) :
    setL (setL ys ((i + 1) * size) (xs.drop (i * size))) (i * size) ns = xs.take (i * size) ++ (ns ++ xs.drop (i * size)) := by
  have h1 : i * size ≤ n * size := Nat.mul_le_mul_right _ (by omega)
  have h2 : (i + 1) * size = i * size + size := by rw [Nat.add_mul]; omega
  have h3 : (n + 1) * size = n * size + size := by rw [Nat.add_mul]; omega
  have hd : (xs.drop (i * size)).length = n * size - i * size := by rw [List.length_drop, hx]
  have hyi : ys.take (i * size) = xs.take (i * size) := by rw [← hyx, List.take_take, Nat.min_eq_left h1]
  rw [setL_eq (xs.drop (i * size)) _ _ (by rw [hd, hy]; omega)]
  rw [setL_eq ns _ _ (by simp only [List.length_append, List.length_take, List.length_drop, hy, hd, hn]; omega)]
  have e1 : (List.take ((i + 1) * size) ys ++ (List.drop (i * size) xs ++ List.drop ((i + 1) * size + (List.drop (i * size) xs).length) ys)).take (i * size) = xs.take (i * size) := by
    rw [List.take_append_of_le_length (by rw [List.length_take, hy]; omega), List.take_take, Nat.min_eq_left (by omega), hyi]
  have e2 : (List.take ((i + 1) * size) ys ++ (List.drop (i * size) xs ++ List.drop ((i + 1) * size + (List.drop (i * size) xs).length) ys)).drop (i * size + ns.length) = xs.drop (i * size) := by
    have hl : (List.take ((i + 1) * size) ys).length = (i + 1) * size := by rw [List.length_take, hy]; omega
    rw [List.drop_append_of_le_length (by rw [hl]; omega), List.drop_of_length_le (by rw [hl]; omega), List.nil_append, List.drop_of_length_le (l := ys) (by rw [hy, hd]; omega), List.append_nil]
  rw [e1, e2]

theorem iinfo_dirties : (Tryd.prog.info? 57).map (fun i => (i.zero, i.size, i.bytes)) = some (some (.agg #[.int .i64 0, .int .i64 0]), 2, 16) := by kernel_rfl
theorem isize_dirties : (Tryd.prog.info? 57).map (·.size) = some 2 := by kernel_rfl
theorem isizeof_dirties (w : World) : (Go.sizeOf 57).run Tryd.prog w = .ok 2 w := by kernel_rfl
theorem ione_dirties (m : Nat) : ∀ u ∈ (Builtin.zeroCells (.agg #[.int .i64 0, .int .i64 0] : Value).cells m).toList, u.oneCell' = true := by
  intro u hu
  unfold Builtin.zeroCells at hu
  simp only [Array.toList_map, List.mem_map] at hu
  obtain ⟨j, hj, rfl⟩ := hu
  have h : j % 2 < 2 := Nat.mod_lt _ (by decide)
  show ((#[.int .i64 0, .int .i64 0] : Array Value)[j % 2]!).oneCell' = true
  match j % 2, h with
  | 0, _ => rfl
  | 1, _ => rfl

set_option maxHeartbeats 4000000 in
set_option maxRecDepth 100000 in
theorem ins_end_dirties (base n i vb : Nat) (v : Value) (xs news : List Value) (w : World) (hown : w.ownsRow base 57 2 v n xs) (hn : n ≤ 100000) (hi : i = n) (hvb : w.heap[vb]? = some (.cells news.toArray 57 (0, 0))) (hnl : news.length = 2) (hn1 : ∀ u ∈ news, u.oneCell' = true) (hb : base ≤ w.heap.size) :
    Calls Tryd.prog 59 #[v, .int .i64 i, .slice (some ⟨vb, 0, none⟩) 1 1] w fun e w' => ∃ v', e = .returned v' ∧ w'.ownsRow base 57 2 v' (n + 1) (xs ++ news) ∧ w.grownBy w' v.ownBlock ∧ (v'.ownBlock = v.ownBlock ∨ ∀ k, v'.ownBlock = some k → w.heap.size ≤ k) := by
  obtain ⟨i0, hi0, hzz⟩ := Option.map_eq_some_iff.1 iinfo_dirties
  simp only [Prod.mk.injEq] at hzz
  obtain ⟨hz0, hz1, hz2⟩ := hzz
  have HO := Aside0.mk hown
  have HNW := Aside0.mk (World.news_of_block hvb)
  have hncm : ∀ A c, v = .slice A n c → n ≤ c ∧ c ≤ maxLen := fun A c hv => by
    rcases hown.2 with ⟨h1, h2⟩ | ⟨g', cap', cur, h1, _, _, h3, h4, _⟩
    · rw [h1] at hv; injection hv with _ e2 e3; exact ⟨by omega, by unfold maxLen; omega⟩
    · rw [h1] at hv; injection hv with _ e2 e3; subst e3; exact ⟨h3, h4⟩
  obtain ⟨A, cap, hv, hA⟩ := ow_slice hown
  obtain ⟨hnc, hcm⟩ := hncm A cap hv
  unfold maxLen at hcm
  subst hi
  have HW1 := Aside0.mk hn1
  have HNL := Aside0.mk hnl
  clear hown hvb hncm hn1 hnl
  subst hv
  have hA2 : A = none ∨ ∃ a, A = some a := by cases A with
    | none => exact .inl rfl
    | some a => exact .inr ⟨a, rfl⟩
  rcases hA2 with rfl | ⟨ad, rfl⟩
  · obtain ⟨h0, h1⟩ := hA rfl
    subst h0 h1
    clear hA
    go_enter Tryd.func59, Tryd.ntmps59
    go_wp2_with (at_builtin; refine wpList_append_lies _ (by rfl) (.tmp 23) (.tmp 24) 54 (by rfl) base 57 i0 (.agg #[.int .i64 0, .int .i64 0]) 2 16 Tryd.underlying54 hi0 hz0 hz1 hz2 rfl (by decide) (.slice none 0 0) 0 xs (by rfl) HO.out ⟨vb, 0, none⟩ 1 1 news (by rfl) (by rw [HNL.out]) (by exact HNW.out) HW1.out (by decide) (by decide) (by decide) hb _ rfl ?_)
    intro g2 cap2 w3 hown hgr hor hlt3
    go_wp2_with fail
    go_ret
    exact ⟨_, rfl, hown, hgr, by
      rcases hor with h | h
      · exact .inl h.symm
      · exact .inr fun k hk => by have : g2 = k := by simpa [Value.ownBlock] using hk
                                  omega⟩
  · obtain ⟨ab, ao, asp⟩ := ad
    have h1 : ((i : Int) == (i : Int)) = true := by simp
    clear hA
    go_enter Tryd.func59, Tryd.ntmps59
    go_wp2_with (at_builtin; refine wpList_append_lies _ (by rfl) (.tmp 23) (.tmp 24) 54 (by rfl) base 57 i0 (.agg #[.int .i64 0, .int .i64 0]) 2 16 Tryd.underlying54 hi0 hz0 hz1 hz2 rfl (by decide) (.slice (some ⟨ab, ao, asp⟩) i cap) i xs (by rfl) HO.out ⟨vb, 0, none⟩ 1 1 news (by rfl) (by rw [HNL.out]) (by exact HNW.out) HW1.out (by decide) (by unfold maxLen; omega) (by omega) hb _ rfl ?_; intro g2 cap2 w3 hown hgr hor hlt3)
    all_goals
      go_ret
      exact ⟨.slice (some ⟨g2, 0, none⟩) (i + 1) cap2, by simp, hown, hgr, by
        rcases hor with h | h
        · exact .inl h.symm
        · exact .inr fun k hk => by have : g2 = k := by simpa [Value.ownBlock] using hk
                                    omega⟩
set_option maxHeartbeats 4000000 in
set_option maxRecDepth 100000 in
theorem ins_grow_dirties (base g n cap i vb : Nat) (xs news : List Value) (w : World) (hown : w.ownsRow base 57 2 (.slice (some ⟨g, 0, none⟩) n cap) n xs) (h1 : ∀ u ∈ xs, u.oneCell' = true) (hn : n ≤ 100000) (hi : i < n) (hcap : cap < n + 1) (hvb : w.heap[vb]? = some (.cells news.toArray 57 (0, 0))) (hnl : news.length = 2) (hn1 : ∀ u ∈ news, u.oneCell' = true) (hb : base ≤ w.heap.size) :
    Calls Tryd.prog 59 #[.slice (some ⟨g, 0, none⟩) n cap, .int .i64 i, .slice (some ⟨vb, 0, none⟩) 1 1] w fun e w' => ∃ v', e = .returned v' ∧ w'.ownsRow base 57 2 v' (n + 1) (xs.take (i * 2) ++ (news ++ xs.drop (i * 2))) ∧ w.grownBy w' none ∧ (∀ k, v'.ownBlock = some k → w.heap.size ≤ k) := by
  obtain ⟨i0, hi0, hzz⟩ := Option.map_eq_some_iff.1 iinfo_dirties
  simp only [Prod.mk.injEq] at hzz
  obtain ⟨hz0, hz1, hz2⟩ := hzz
  obtain ⟨hcs, hfz, hrd, hnc, hcm⟩ := own_cells hown
  have hxl := hown.1
  have hgl : g < w.heap.size := by obtain ⟨_, cg, hcg⟩ := ow_block hown rfl; exact heap_lt hcg
  unfold maxLen at hcm
  obtain ⟨m, hm⟩ : ∃ m : Nat, n + 1 - i = m := ⟨_, rfl⟩
  -- append(s[:i], make(S, n+m-i)...)
  obtain ⟨c2, W2, hr2, ho2, hg2⟩ := zeros_grow (P := Tryd.prog) w base 54 3 54 57 i0 (.agg #[.int .i64 0, .int .i64 0]) 2 16 Tryd.underlying54 Tryd.underlying3 hi0 hz0 hz1 hz2 rfl (by decide) (by decide) g i cap (xs.take (i * 2)) (own_cut hown (by omega)) .i64 m (by omega) (by omega) (ione_dirties m) (by omega) hb
  obtain ⟨ys, hys⟩ : ∃ ys, xs.take (i * 2) ++ (Builtin.zeroCells (.agg #[.int .i64 0, .int .i64 0] : Value).cells m).toList = ys := ⟨_, rfl⟩
  rw [hys] at ho2
  have him : i + m = n + 1 := by omega
  rw [him] at ho2 hr2
  obtain ⟨hcs2, hfz2, hrd2, hnc2, hcm2⟩ := own_cells ho2
  unfold maxLen at hcm2
  have hkeep : ∀ k, k < w.heap.size → W2.heap[k]? = w.heap[k]? := fun k hk => hg2.block k hk (by simp)
  have hnb := World.news_of_block hvb
  have hvbl := heap_lt hvb
  -- copy(s2[i:], v)
  obtain ⟨o3, g3⟩ := own_setCells news (i * 2) W2 ys ho2
  obtain ⟨W3, hW3⟩ : ∃ W3, W2.setCells w.heap.size (i * 2) news = W3 := ⟨_, rfl⟩
  rw [hW3] at o3 g3
  have hcp1 : ∀ ty dc, (Builtin.copy_ #[54, 54] ty #[.slice (some ⟨w.heap.size, i * 2, none⟩) (n + 1 - i) dc, .slice (some ⟨vb, 0, none⟩) 1 1]).run Tryd.prog W2 = .ok (goInt 1) W3 := fun ty dc => by
    rw [← hW3]
    exact copy_cells W2 _ _ ty 57 2 w.heap.size (i * 2) (n + 1 - i) dc ⟨vb, 0, none⟩ 1 1 news Tryd.underlying54 isize_dirties (by rw [hnl, show Nat.min 1 (n + 1 - i) = 1 from by simp only [Nat.min_def]; split <;> omega]) 1 (by simp only [Nat.min_def]; split <;> omega)
      (fun j v hj => by
        have := hnb j v hj
        rw [add_at] at this ⊢
        exact (World.cell?_of_block (w := w) (a := ⟨vb, 0 + j, none⟩) (hkeep vb hvbl)).trans this)
      (fun j hj => hcs2 _ (by rw [hnl] at hj; have : (i + 1) * 2 ≤ c2 * 2 := Nat.mul_le_mul_right _ (by omega); omega)) (fun j hj => hfz2 _) hn1
  obtain ⟨hcs3, hfz3, _, _, _⟩ := own_cells o3
  -- copy(s2[i+m:], s[i:])
  obtain ⟨o4, g4⟩ := own_setCells (xs.drop (i * 2)) ((i + 1) * 2) W3.drew _ o3.drew
  have hdl : (xs.drop (i * 2)).length = (n - i) * 2 := by rw [List.length_drop, hxl]; omega
  have hcp2 : ∀ ty dc sc, (Builtin.copy_ #[54, 54] ty #[.slice (some ⟨w.heap.size, (i + 1) * 2, none⟩) (n - i) dc, .slice (some ⟨g, i * 2, none⟩) (n - i) sc]).run Tryd.prog W3.drew = .ok (goInt (n - i : Nat)) (W3.drew.setCells w.heap.size ((i + 1) * 2) (xs.drop (i * 2))) := fun ty dc sc => by
    exact copy_cells W3.drew _ _ ty 57 2 w.heap.size ((i + 1) * 2) (n - i) dc ⟨g, i * 2, none⟩ (n - i) sc (xs.drop (i * 2)) Tryd.underlying54 isize_dirties (by rw [hdl, show Nat.min (n - i) (n - i) = n - i from by simp only [Nat.min_def]; split <;> omega]) (n - i) (by simp only [Nat.min_def]; split <;> omega)
      (fun j v hj => by
        rw [Addr.add_lit]
        have hk3 : W3.heap[g]? = w.heap[g]? := by rw [← hW3, setCells_other (by omega)]; exact hkeep g hgl
        show W3.cell? _ = _
        rw [World.cell?_of_block (w := w) (a := ⟨g, i * 2 + j, none⟩) hk3]
        exact hrd _ v (by rw [List.getElem?_drop] at hj; exact hj))
      (fun j hj => hcs3 _ (by rw [hdl] at hj; have : (i + 1 + (n - i)) * 2 ≤ c2 * 2 := Nat.mul_le_mul_right _ (by omega); rw [Nat.add_mul] at this; omega)) (fun j hj => hfz3 _) (fun v hv => h1 v (List.mem_of_mem_drop hv))
  have HFIN := Aside0.mk (show (W3.drew.setCells w.heap.size ((i + 1) * 2) (xs.drop (i * 2))).ownsRow base 57 2 (.slice (some ⟨w.heap.size, 0, none⟩) (n + 1) c2) (n + 1) (xs.take (i * 2) ++ (news ++ xs.drop (i * 2))) ∧ w.grownBy (W3.drew.setCells w.heap.size ((i + 1) * 2) (xs.drop (i * 2))) none from by
    rw [← hys, ins_grow_eq xs _ news n i 2 hxl (by rw [Array.length_toList, size_zeroCells, hm]; rfl) hnl hi] at o4
    refine ⟨o4, ⟨?_, ?_, ?_, ?_, fun k hk _ => ?_⟩⟩
    · exact g4.os.trans (g3.os.trans hg2.os)
    · exact g4.tape.trans (g3.tape.trans hg2.tape)
    · exact g4.output.trans (g3.output.trans hg2.output)
    · exact Nat.le_trans hg2.size (Nat.le_trans g3.size g4.size)
    · rw [setCells_other (show k ≠ w.heap.size by omega)]
      show W3.heap[k]? = _
      rw [← hW3, setCells_other (show k ≠ w.heap.size by omega)]
      exact hkeep k hk)
  have hm2 : IntKind.i64.wrap ((n : Int) + 1) = (n : Int) + 1 := IntWalk.i64_in _ (by omega)
  have hm3 : IntKind.i64.wrap ((n : Int) + 1 - (i : Int)) = (m : Int) := by rw [IntWalk.i64_in _ (by omega)]; omega
  have hm4 : (n : Int) + 1 - (i : Int) = (m : Int) := by omega
  have hne : ((i : Int) == (n : Int)) = false := by simp; omega
  have hgt : decide ((n : Int) + 1 > (cap : Int)) = true := decide_eq_true (by omega)
  have hc0 : ¬ cap = i := by omega
  have hc1 : ¬ c2 = i := by omega
  have hc3 : ¬ c2 = i + 1 := by omega
  have hi5 : i ≤ 100000 := by omega
  have hin : i ≤ n := by omega
  have hcm3 : cap ≤ 100000 := by omega
  have hm5 : IntKind.i64.wrap ((i : Int) + 1) = (i : Int) + 1 := IntWalk.i64_in _ (by omega)
  have htn : ((i : Int) + 1).toNat = i + 1 := by omega
  have hb1 : (0 : Int) ≤ (i : Int) + 1 := by omega
  have hb5 : (i : Int) + 1 ≤ (n : Int) + 1 := by omega
  have HR2 := Aside0.mk hr2
  have HM4 := Aside0.mk hm4
  have HCP1 := Aside0.mk hcp1
  have HCP2 := Aside0.mk hcp2
  clear hown h1 hcs hfz hrd hxl hr2 ho2 hg2 hys him hcs2 hfz2 hrd2 hkeep hnb hvbl o3 g3 hW3 hcp1 hcs3 hfz3 o4 g4 hdl hcp2 hvb hnl hn1 hb hi0 hz0 hz1 hz2 hm hm4 hcm
  go_enter Tryd.func59, Tryd.ntmps59
  go_wp2_with (first
    | (at_builtin; refine Lib.wpList_append_run _ rfl (.tmp 34) (.tmp 39) 54 3 rfl (.slice (some ⟨g, 0, none⟩) i cap) (.int .i64 m) (by rfl) (by first | rfl | (rw [← HM4.out]; rfl)) _ _ HR2.out ?_)
    | (refine wpList_copy_run _ rfl (.tmp 43) (.tmp 44) 54 54 rfl (.slice (some ⟨w.heap.size, i * 2, none⟩) (n + 1 - i) (c2 - i)) _ (by rfl) (by rfl) (HCP1.out _ _) ?_))
  go_region_law (refine step_copy_run rfl (.tmp 50) (.tmp 53) 54 54 rfl (.slice (some ⟨w.heap.size, (i + 1) * 2, none⟩) (n - i) (c2 - (i + 1))) (.slice (some ⟨g, i * 2, none⟩) (n - i) (cap - i)) (by simp [Act.eval, Act.put]) (by simp [Act.eval, Act.put]) (HCP2.out 3 (c2 - (i + 1)) (cap - i)) ?_)
  go_wp2_with fail
  go_ret
  exact ⟨.slice (some ⟨w.heap.size, 0, none⟩) (n + 1) c2, by simp, HFIN.out.1, HFIN.out.2, fun k hk => by
    have : w.heap.size = k := by simpa [Value.ownBlock] using hk
    omega⟩

set_option maxHeartbeats 4000000 in
set_option maxRecDepth 100000 in
theorem ins_shift_dirties (base g n cap i vb : Nat) (xs news : List Value) (w : World) (hown : w.ownsRow base 57 2 (.slice (some ⟨g, 0, none⟩) n cap) n xs) (h1 : ∀ u ∈ xs, u.oneCell' = true) (hn : n ≤ 100000) (hi : i < n) (hcap : n + 1 ≤ cap) (hvb : w.heap[vb]? = some (.cells news.toArray 57 (0, 0))) (hvg : vb ≠ g) (hnl : news.length = 2) (hn1 : ∀ u ∈ news, u.oneCell' = true) (hb : base ≤ w.heap.size) :
    Calls Tryd.prog 59 #[.slice (some ⟨g, 0, none⟩) n cap, .int .i64 i, .slice (some ⟨vb, 0, none⟩) 1 1] w fun e w' => e = .returned (.slice (some ⟨g, 0, none⟩) (n + 1) cap) ∧ w'.ownsRow base 57 2 (.slice (some ⟨g, 0, none⟩) (n + 1) cap) (n + 1) (xs.take (i * 2) ++ (news ++ xs.drop (i * 2))) ∧ w.grownBy w' (some g) := by
  obtain ⟨hcs, hfz, hrd, hnc, hcm⟩ := own_cells hown
  have hxl := hown.1
  unfold maxLen at hcm
  obtain ⟨cg, hcg, hcgs, hcgt⟩ : ∃ cg, w.heap[g]? = some (.cells cg 57 (0, 0)) ∧ cg.size = cap * 2 ∧ cg.toList.take (n * 2) = xs := by
    rcases hown.2 with ⟨h2, _⟩ | ⟨g', cap', cur, hv, hg, hh, hnc', hcm', hsz, htk⟩
    · cases h2
    · simp at hv
      obtain ⟨rfl, rfl⟩ := hv
      exact ⟨cur, hh, hsz, htk⟩
  -- the row, one element longer
  have hlong : w.ownsRow base 57 2 (.slice (some ⟨g, 0, none⟩) (n + 1) cap) (n + 1) (cg.toList.take ((n + 1) * 2)) := by
    have hle : (n + 1) * 2 ≤ cap * 2 := Nat.mul_le_mul_right _ hcap
    refine ⟨by rw [List.length_take, Array.length_toList, hcgs]; omega, .inr ⟨g, cap, cg, rfl, (ow_block hown rfl).1, hcg, hcap, by unfold maxLen; omega, hcgs, rfl⟩⟩
  obtain ⟨ys, hys⟩ : ∃ ys, cg.toList.take ((n + 1) * 2) = ys := ⟨_, rfl⟩
  have hyl : ys.length = (n + 1) * 2 := by rw [← hys]; exact hlong.1
  have hyx : ys.take (n * 2) = xs := by rw [← hys, List.take_take, Nat.min_eq_left (Nat.mul_le_mul_right _ (by omega))]; exact hcgt
  rw [hys] at hlong
  have hnb := World.news_of_block hvb
  have hdl : (xs.drop (i * 2)).length = (n - i) * 2 := by rw [List.length_drop, hxl]; omega
  obtain ⟨o1, g1⟩ := own_setCells (xs.drop (i * 2)) ((i + 1) * 2) w.drew _ hlong.drew
  obtain ⟨W1, hW1⟩ : ∃ W1, w.drew.setCells g ((i + 1) * 2) (xs.drop (i * 2)) = W1 := ⟨_, rfl⟩
  have hcp1 : ∀ ty dc sc, (Builtin.copy_ #[54, 54] ty #[.slice (some ⟨g, (i + 1) * 2, none⟩) (n - i) dc, .slice (some ⟨g, i * 2, none⟩) (n + 1 - i) sc]).run Tryd.prog w.drew = .ok (goInt (n - i : Nat)) W1 := fun ty dc sc => by
    rw [← hW1]
    exact copy_cells w.drew _ _ ty 57 2 g ((i + 1) * 2) (n - i) dc ⟨g, i * 2, none⟩ (n + 1 - i) sc (xs.drop (i * 2)) Tryd.underlying54 isize_dirties (by rw [hdl, show Nat.min (n + 1 - i) (n - i) = n - i from by simp only [Nat.min_def]; split <;> omega]) (n - i) (by simp only [Nat.min_def]; split <;> omega)
      (fun j v hj => by rw [Addr.add_lit]; exact hrd _ v (by rw [List.getElem?_drop] at hj; exact hj))
      (fun j hj => hcs _ (by rw [hdl] at hj; have : (i + 1 + (n - i)) * 2 ≤ cap * 2 := Nat.mul_le_mul_right _ (by omega); rw [Nat.add_mul] at this; omega)) (fun j hj => hfz _) (fun v hv => h1 v (List.mem_of_mem_drop hv))
  rw [hW1] at o1 g1
  obtain ⟨hcs1, hfz1, _, _, _⟩ := own_cells o1
  obtain ⟨o2, g2⟩ := own_setCells news (i * 2) W1 _ o1
  have hcp2 : ∀ ty dc, (Builtin.copy_ #[54, 54] ty #[.slice (some ⟨g, i * 2, none⟩) (n + 1 - i) dc, .slice (some ⟨vb, 0, none⟩) 1 1]).run Tryd.prog W1 = .ok (goInt 1) (W1.setCells g (i * 2) news) := fun ty dc => by
    exact copy_cells W1 _ _ ty 57 2 g (i * 2) (n + 1 - i) dc ⟨vb, 0, none⟩ 1 1 news Tryd.underlying54 isize_dirties (by rw [hnl, show Nat.min 1 (n + 1 - i) = 1 from by simp only [Nat.min_def]; split <;> omega]) 1 (by simp only [Nat.min_def]; split <;> omega)
      (fun j v hj => by
        have := hnb j v hj
        rw [add_at] at this ⊢
        exact (World.cell?_of_block (w := w) (a := ⟨vb, 0 + j, none⟩) (by rw [← hW1, setCells_other hvg]; rfl)).trans this)
      (fun j hj => hcs1 _ (by rw [hnl] at hj; have : (i + 1) * 2 ≤ cap * 2 := Nat.mul_le_mul_right _ (by omega); omega)) (fun j hj => hfz1 _) hn1
  have HFIN := Aside0.mk (show (W1.setCells g (i * 2) news).ownsRow base 57 2 (.slice (some ⟨g, 0, none⟩) (n + 1) cap) (n + 1) (xs.take (i * 2) ++ (news ++ xs.drop (i * 2))) ∧ w.grownBy (W1.setCells g (i * 2) news) (some g) from by
    rw [ins_shift_eq xs ys news n i 2 hxl hyl hyx hnl hi] at o2
    exact ⟨o2, ⟨g2.os.trans g1.os, g2.tape.trans g1.tape, g2.output.trans g1.output, Nat.le_trans g1.size g2.size, fun k hk hkg => (g2.block k (Nat.lt_of_lt_of_le hk g1.size) hkg).trans (g1.block k hk hkg)⟩⟩)
  have hov : ∀ lb cb, (callFunc 76 #[.slice (some ⟨vb, 0, none⟩) 1 1, .slice (some ⟨g, (i + 1) * 2, none⟩) lb cb]).run Tryd.prog w = .ok (.value (.bool false)) w := fun lb cb => by
    rw [run_callFunc_extern Tryd.func76 (by kernel_rfl) (by kernel_rfl) (by kernel_rfl) (e := Extern.SlicesOverlaps.overlaps #[54, 54] #[4]) (by kernel_rfl),
      Lib.run_overlaps_apart w 54 4 57 Tryd.underlying54 2 isizeof_dirties ⟨vb, 0, none⟩ ⟨g, (i + 1) * 2, none⟩ 1 1 lb cb hvg 57 57 2 (cap * 2) (by simp [World.shape?, hvb, hnl]) (by simp [World.shape?, hcg, hcgs]) (by omega) (by simp [World.frozen?, hvb]) (by simp [World.frozen?, hvb])]
    rfl
  have hm2 : IntKind.i64.wrap ((n : Int) + 1) = (n : Int) + 1 := IntWalk.i64_in _ (by omega)
  have hm5 : IntKind.i64.wrap ((i : Int) + 1) = (i : Int) + 1 := IntWalk.i64_in _ (by omega)
  have htn : ((i : Int) + 1).toNat = i + 1 := by omega
  have htn2 : ((n : Int) + 1).toNat = n + 1 := by omega
  have hne : ((i : Int) == (n : Int)) = false := by simp; omega
  have hgt : decide ((n : Int) + 1 > (cap : Int)) = false := decide_eq_false (by omega)
  have hb1 : (0 : Int) ≤ (i : Int) + 1 := by omega
  have hb3 : (i : Int) ≤ (n : Int) + 1 := by omega
  have hb5 : (i : Int) + 1 ≤ (n : Int) + 1 := by omega
  have hc0 : ¬ cap = i := by omega
  have hc1 : ¬ cap = i + 1 := by omega
  have hin : i ≤ n := by omega
  have hin2 : i ≤ n + 1 := by omega
  have hin3 : i + 1 ≤ n + 1 := by omega
  have HCP1 := Aside0.mk hcp1
  have HCP2 := Aside0.mk hcp2
  clear hown h1 hcs hfz hrd hxl hcg hcgs hcgt hlong hys hyl hyx hnb hdl o1 g1 hW1 hcp1 hcs1 hfz1 o2 g2 hcp2 hvb hnl hn1 hb
  go_enter Tryd.func59, Tryd.ntmps59
  go_wp2_with (simp only [hov])
  go_region_law (refine step_copy_run rfl (.tmp 73) (.tmp 76) 54 54 rfl (.slice (some ⟨g, (i + 1) * 2, none⟩) (n - i) (cap - (i + 1))) (.slice (some ⟨g, i * 2, none⟩) (n + 1 - i) (cap - i)) (by simp [Act.eval, Act.put]) (by simp [Act.eval, Act.put]) (HCP1.out 3 (cap - (i + 1)) (cap - i)) ?_)
  go_wp2_with (refine wpList_copy_run _ rfl (.tmp 80) (.tmp 81) 54 54 rfl _ _ rfl rfl (HCP2.out _ _) ?_)
  go_ret
  exact ⟨by simp, HFIN.out.1, HFIN.out.2⟩

/-- slices.Insert of one element. -/
theorem ins_dirties (base n i vb : Nat) (v : Value) (xs news : List Value) (w : World) (hown : w.ownsRow base 57 2 v n xs) (h1 : ∀ u ∈ xs, u.oneCell' = true) (hn : n ≤ 100000) (hi : i ≤ n) (hvb : w.heap[vb]? = some (.cells news.toArray 57 (0, 0))) (hvg : v.ownBlock ≠ some vb) (hnl : news.length = 2) (hn1 : ∀ u ∈ news, u.oneCell' = true) (hb : base ≤ w.heap.size) :
    Calls Tryd.prog 59 #[v, .int .i64 i, .slice (some ⟨vb, 0, none⟩) 1 1] w fun e w' => ∃ v', e = .returned v' ∧ w'.ownsRow base 57 2 v' (n + 1) (xs.take (i * 2) ++ (news ++ xs.drop (i * 2))) ∧ w.grownBy w' v.ownBlock ∧ (v'.ownBlock = v.ownBlock ∨ ∀ k, v'.ownBlock = some k → w.heap.size ≤ k) := by
  rcases (show i = n ∨ i < n by omega) with h | h
  · refine (ins_end_dirties base n i vb v xs news w hown hn h hvb hnl hn1 hb).mono ?_
    rintro e w' ⟨v', he, ho, hg, hat⟩
    refine ⟨v', he, ?_, hg, hat⟩
    rw [List.take_of_length_le (by rw [hown.1, h]; exact Nat.le_refl _), List.drop_of_length_le (by rw [hown.1, h]; exact Nat.le_refl _), List.append_nil]
    exact ho
  · obtain ⟨g, cap, rfl, hbg, _⟩ := hown.form (by omega)
    by_cases hc : cap < n + 1
    · refine (ins_grow_dirties base g n cap i vb xs news w hown h1 hn h hc hvb hnl hn1 hb).mono ?_
      rintro e w' ⟨v', he, ho, hg, hat⟩
      exact ⟨v', he, ho, ⟨hg.os, hg.tape, hg.output, hg.size, fun k hk _ => hg.block k hk (by simp)⟩, .inr hat⟩
    · refine (ins_shift_dirties base g n cap i vb xs news w hown h1 hn h (by omega) hvb (fun e => hvg (by rw [e]; rfl)) hnl hn1 hb).mono ?_
      rintro e w' ⟨he, ho, hg⟩
      exact ⟨_, he, ho, hg, .inl rfl⟩

end Go.Proofs.YtlgpkbhajloajaaDoor.Ins
/- The contracts of package dirty. No condition. -/
namespace Go.Proofs.YtlgpkbhajloajaaDoor.Dirty
open Go.RowKit Go.Proofs.YtlgpkbhajloajaaDoorW.PrintWords Go.Proofs.YtlgpkbhajloajaaDoorW.PrintLast Go.Proofs.YtlgpkbhajloajaaDoorW.PrintMore
open Go.Proofs.YtlgpkbhajloajaaDoor.See Go.Proofs.YtlgpkbhajloajaaDoor.Mem Go.Proofs.YtlgpkbhajloajaaDoor.Clone Go.Proofs.YtlgpkbhajloajaaDoor.Cell Go.Proofs.YtlgpkbhajloajaaDoor.Page
attribute [local go_sem] max2_imax min2_imin max_two min_two
set_option linter.unusedVariables false
set_option linter.unusedSimpArgs false

/-- How two numbers stand. -/
def cmpI (x y : Int) : Int := if x < y then -1 else if y < x then 1 else 0

set_option maxHeartbeats 1000000 in
set_option maxRecDepth 100000 in
theorem compare_calls (x y : Int) (w : World) : Calls Tryd.prog 75 #[.int .i64 x, .int .i64 y] w fun e w' => e = .returned (.int .i64 (cmpI x y)) ∧ w = w' := by
  rcases (show (x < y ∧ cmpI x y = -1) ∨ (¬ x < y ∧ y < x ∧ cmpI x y = 1) ∨ (¬ x < y ∧ ¬ y < x ∧ cmpI x y = 0) by unfold cmpI; split <;> (try split) <;> omega) with ⟨h, h2⟩ | ⟨h, h2, h3⟩ | ⟨h, h2, h3⟩
  · rw [h2]; clear h2
    go_enter Tryd.func75, Tryd.ntmps75
    go_wp2
    go_ret
    simp
  · rw [h3]; clear h3
    go_enter Tryd.func75, Tryd.ntmps75
    go_wp2
    go_ret
    simp
  · rw [h3]; clear h3
    go_enter Tryd.func75, Tryd.ntmps75
    go_wp2
    go_ret
    simp

set_option maxHeartbeats 1000000 in
set_option maxRecDepth 100000 in
theorem clos_find (pg fr n : Int) (w : World) :
    Calls Tryd.prog 74 #[.agg #[.int .i64 pg, .int .i64 fr], .int .i64 n] w fun e w' => e = .returned (.int .i64 (cmpI pg n)) ∧ Below w.heap.size w w' := by
  go_enter Tryd.func74, Tryd.ntmps74
  go_wp2_with fail
  refine (compare_calls pg n _).mono ?_
  rintro e w' ⟨rfl, rfl⟩
  go_wp2_with fail
  go_ret
  exact ⟨by simp, below_alloc (Below.refl _ _) _⟩

/-- Where a page stands, or would: how many are less. -/
def pos : List (Int × Int) → Int → Nat
  | [], _ => 0
  | d :: ds, n => if d.1 < n then pos ds n + 1 else 0
/-- Whether it is there. -/
def has (ds : List (Int × Int)) (n : Int) : Bool := match ds[pos ds n]? with | some d => d.1 == n | none => false
def Rising (ds : List (Int × Int)) : Prop := ds.Pairwise fun a b => a.1 < b.1

theorem pos_le : ∀ (ds : List (Int × Int)) (n : Int), pos ds n ≤ ds.length
  | [], _ => Nat.le_refl _
  | d :: ds, n => by
    unfold pos
    split
    · have := pos_le ds n; simp; omega
    · simp

theorem pos_eq : ∀ (ds : List (Int × Int)) (n : Int) (k : Nat), k ≤ ds.length → (∀ j d, j < k → ds[j]? = some d → d.1 < n) → (∀ d, ds[k]? = some d → ¬ d.1 < n) → pos ds n = k
  | [], n, k, hk, _, _ => by simp at hk; subst hk; rfl
  | d :: ds, n, 0, _, _, h2 => by unfold pos; rw [if_neg (h2 d rfl)]
  | d :: ds, n, k + 1, hk, h1, h2 => by
    unfold pos
    rw [if_pos (h1 0 d (by omega) rfl), pos_eq ds n k (by simpa using hk) (fun j e hj he => h1 (j + 1) e (by omega) (by simpa using he)) (fun e he => h2 e (by simpa using he))]

set_option maxHeartbeats 2000000 in
set_option maxRecDepth 100000 in
theorem search_calls (v : Value) (ds : List (Int × Int)) (n : Int) (w : World) (hp : P2 w 57 v ds) (hr : Rising ds) :
    Calls Tryd.prog 73 #[v, .int .i64 n, .func (.func 74) #[] #[]] w fun e w' => e = .returned (.tuple #[.int .i64 (pos ds n : Nat), .bool (has ds n)]) ∧ Below w.heap.size w w' := by
  obtain ⟨A, cap, rfl, _⟩ := ow_slice hp.1
  obtain ⟨l, hl⟩ : ∃ l, ds.length = l := ⟨_, rfl⟩
  have HL := Aside0.mk hl
  have HP := Aside0.mk hp
  have HR := Aside0.mk hr
  have hl5 : l ≤ 100000 := by rw [← hl]; exact hp.2
  rw [hl]
  clear hp hr hl
  go_enter Tryd.func73, Tryd.ntmps73
  go_wp2_with fail
  go_loopg [9, 10] (l + 1) (fun kq v9 v10 w' => ∃ i j : Int, v9 = .int .i64 i ∧ v10 = .int .i64 j ∧ Aside0 (0 ≤ i ∧ i ≤ j ∧ j ≤ l ∧ (kq : Int) = j - i + 1) ∧ Aside0 (∀ (k : Nat) (d : Int × Int), (k : Int) < i → ds[k]? = some d → d.1 < n) ∧ Aside0 (∀ (k : Nat) (d : Int × Int), j ≤ (k : Int) → ds[k]? = some d → ¬ d.1 < n) ∧ Aside0 (Below w.heap.size w w'))
  case atStart => exact ⟨0, l, rfl, rfl, ⟨by omega, by omega, by omega, by omega⟩, ⟨fun k d h => by omega⟩, ⟨fun k d h hd => by have := (List.getElem?_eq_some_iff.1 hd).1; have := HL.out; omega⟩, ⟨Below.refl _ _⟩⟩
  case round =>
    obtain ⟨i, j, rfl, rfl, HI, HA, HZ, HB⟩ := hrel
    have hi0 : 0 ≤ i := HI.out.1
    have hj0 : j ≤ 100000 := by have := HI.out; omega
    by_cases hlt : i < j
    · have hij : 0 ≤ i + j := by omega
      have hij2 : i + j ≤ 200000 := by omega
      obtain ⟨h, hh⟩ : ∃ h, (i + j) / 2 = h := ⟨_, rfl⟩
      have hh0 : 0 ≤ h := by omega
      have hhi : i ≤ h := by omega
      have hhj : h < j := by omega
      have hhl : h < l := by have := HI.out; omega
      have hhb : h ≤ 100000 := by omega
      obtain ⟨⟨pg, fr⟩, hd⟩ : ∃ d, ds[h.toNat]? = some d := ⟨_, List.getElem?_eq_getElem (by have := HL.out; omega)⟩
      obtain ⟨g, rfl⟩ : ∃ g, A = some ⟨g, 0, none⟩ := by
        rcases HP.out.form with ⟨_, h0⟩ | ⟨g, c, hv, _⟩
        · rw [h0] at hd; simp at hd
        · injection hv with h1; exact ⟨g, h1⟩
      have hcl : wr.cell? ⟨g, h.toNat * 2, none⟩ = some (.int .i64 pg) ∧ wr.cell? ⟨g, h.toNat * 2 + 1, none⟩ = some (.int .i64 fr) := by
        rcases (P2.below HP.out HB.out).form with ⟨_, h0⟩ | ⟨g', c, hv, hc, _⟩
        · rw [h0] at hd; simp at hd
        · injection hv with h1; injection h1 with h1; injection h1 with h1; subst h1; exact hc _ _ hd
      obtain ⟨hd0, hd1⟩ := hcl
      have HD := Aside0.mk hd
      have HHH := Aside0.mk (And.intro hhi hhj)
      clear hd hhi hhj
      go_wp2_with fail
      refine (clos_find pg fr n _).mono ?_
      rintro e w1 ⟨rfl, hb⟩
      replace HB := Aside0.mk (below_step HB.out hb)
      clear hb hd0 hd1
      by_cases hc : pg < n
      · have hq : decide (cmpI pg n < 0) = true := by unfold cmpI; rw [if_pos hc]; rfl
        have HC := Aside0.mk hc
        clear hc
        go_wp2_with fail
        go_roundg (gk - (h + 1 - i).toNat)
        case measure => have := HI.out; have := HHH.out; omega
        case rel =>
          refine ⟨h + 1, j, rfl, rfl, ⟨by omega, by have := HHH.out; omega, by have := HI.out; omega, by have := HI.out; have := HHH.out; omega⟩, ⟨fun k d hk hd => ?_⟩, HZ, HB⟩
          rcases (show (k : Int) < h ∨ k = h.toNat by omega) with h1 | h1
          · obtain ⟨hk1, hk2⟩ := List.getElem?_eq_some_iff.1 hd
            obtain ⟨hg1, hg2⟩ := List.getElem?_eq_some_iff.1 HD.out
            have := List.pairwise_iff_getElem.1 HR.out k h.toNat hk1 hg1 (by omega)
            rw [hk2, hg2] at this
            have hc := HC.out
            simp only at this
            omega
          · subst h1
            rw [HD.out] at hd
            injection hd with hd
            subst hd
            exact HC.out
      · have hq : decide (cmpI pg n < 0) = false := by unfold cmpI; rw [if_neg hc]; split <;> rfl
        have HC := Aside0.mk hc
        clear hc
        go_wp2_with fail
        go_roundg (gk - (j - h).toNat)
        case measure => have := HI.out; have := HHH.out; omega
        case rel =>
          refine ⟨i, h, rfl, rfl, ⟨by omega, by have := HHH.out; omega, by omega, by have := HI.out; have := HHH.out; omega⟩, HA, ⟨fun k d hk hd => ?_⟩, HB⟩
          rcases (show h < (k : Int) ∨ k = h.toNat by omega) with h1 | h1
          · obtain ⟨hk1, hk2⟩ := List.getElem?_eq_some_iff.1 hd
            obtain ⟨hg1, hg2⟩ := List.getElem?_eq_some_iff.1 HD.out
            have := List.pairwise_iff_getElem.1 HR.out h.toNat k hg1 hk1 (by omega)
            rw [hk2, hg2] at this
            have hc := HC.out
            simp only at this
            omega
          · subst h1
            rw [HD.out] at hd
            injection hd with hd
            subst hd
            exact HC.out
    · have HIJ := Aside0.mk (show i = j by have := HI.out; omega)
      have HPOS := Aside0.mk (show ((pos ds n : Nat) : Int) = i by
        rw [pos_eq ds n i.toNat (by have := HI.out; have := HL.out; omega) (fun k d hk hd => HA.out k d (by omega) hd) (fun d hd => HZ.out i.toNat d (by have := HIJ.out; omega) hd)]
        omega)
      by_cases hil : i < l
      · obtain ⟨⟨pg, fr⟩, hd⟩ : ∃ d, ds[i.toNat]? = some d := ⟨_, List.getElem?_eq_getElem (by have := HL.out; omega)⟩
        obtain ⟨g, rfl⟩ : ∃ g, A = some ⟨g, 0, none⟩ := by
          rcases HP.out.form with ⟨_, h0⟩ | ⟨g, c, hv, _⟩
          · rw [h0] at hd; simp at hd
          · injection hv with h1; exact ⟨g, h1⟩
        have hcl : wr.cell? ⟨g, i.toNat * 2, none⟩ = some (.int .i64 pg) ∧ wr.cell? ⟨g, i.toNat * 2 + 1, none⟩ = some (.int .i64 fr) := by
          rcases (P2.below HP.out HB.out).form with ⟨_, h0⟩ | ⟨g', c, hv, hc, _⟩
          · rw [h0] at hd; simp at hd
          · injection hv with h1; injection h1 with h1; injection h1 with h1; subst h1; exact hc _ _ hd
        obtain ⟨hd0, hd1⟩ := hcl
        have HHAS := Aside0.mk (show has ds n = (cmpI pg n == 0) by
          unfold has
          rw [show pos ds n = i.toNat from by have := HPOS.out; omega, hd]
          have hz := HZ.out i.toNat _ (by have := HIJ.out; omega) hd
          simp only at hz
          unfold cmpI
          rw [if_neg hz]
          by_cases h : n < pg
          · rw [if_pos h]; simp; omega
          · rw [if_neg h]; simp; omega)
        clear hd
        have hlt2 : decide (i < (l : Int)) = true := decide_eq_true hil
        go_wp2_with fail
        refine (clos_find pg fr n _).mono ?_
        rintro e w1 ⟨rfl, hb⟩
        replace HB := Aside0.mk (below_step HB.out hb)
        clear hb hd0 hd1
        go_wp2_with fail
        exact bodyPost_ret (v := .tuple #[.int .i64 i, .bool (cmpI pg n == 0)]) (by simp [results, Tryd.results73, go_sem]) rfl ⟨by rw [HPOS.out, HHAS.out], HB.out⟩
      · have HHAS := Aside0.mk (show has ds n = false by
          unfold has
          rw [show pos ds n = i.toNat from by have := HPOS.out; omega, List.getElem?_eq_none (by have := HL.out; omega)])
        go_wp2_with fail
        exact bodyPost_ret (v := .tuple #[.int .i64 i, .bool false]) (by simp [results, Tryd.results73, go_sem]) rfl ⟨by rw [HPOS.out, HHAS.out], HB.out⟩

set_option maxHeartbeats 1000000 in
set_option maxRecDepth 100000 in
theorem find_calls (p : Nat) (v : Value) (ds : List (Int × Int)) (n : Int) (w : World) (hp : P2 w 57 v ds) (hr : Rising ds) (hc : w.cell? ⟨p, 0, none⟩ = some v) :
    Calls Tryd.prog 58 #[.pointer (some ⟨p, 0, none⟩), .int .i64 n] w fun e w' => e = .returned (.tuple #[.int .i64 (pos ds n : Nat), .bool (has ds n)]) ∧ Below w.heap.size w w' := by
  have HP := Aside0.mk hp
  have HR := Aside0.mk hr
  clear hp hr
  go_enter Tryd.func58, Tryd.ntmps58
  go_wp2_with fail
  refine (search_calls v ds n _ HP.out HR.out).mono ?_
  rintro e w1 ⟨rfl, hb⟩
  have HB := Aside0.mk hb
  clear hb
  go_wp2_with fail
  exact bodyPost_ret (v := .tuple #[.int .i64 (pos ds n : Nat), .bool (has ds n)]) (by simp [results, Tryd.results58, go_sem]) rfl ⟨rfl, HB.out⟩

/-- From which record on a page is dirty; 0: it is not. -/
def fromOf (ds : List (Int × Int)) (n : Int) : Int := if has ds n then (ds[pos ds n]?.map (·.2)).getD 0 else 0

set_option maxHeartbeats 1000000 in
set_option maxRecDepth 100000 in
theorem from_calls (p : Nat) (v : Value) (ds : List (Int × Int)) (n : Int) (w : World) (hp : P2 w 57 v ds) (hr : Rising ds) (hc : w.cell? ⟨p, 0, none⟩ = some v) :
    Calls Tryd.prog 46 #[.pointer (some ⟨p, 0, none⟩), .int .i64 n] w fun e w' => e = .returned (.tuple #[.int .i64 (fromOf ds n), .bool (has ds n)]) ∧ Below w.heap.size w w' := by
  have HP := Aside0.mk hp
  have HC := Aside0.mk hc
  have HFIND := Aside0.mk (find_calls p v ds n w hp hr hc)
  clear hp hr hc
  obtain ⟨k, hk⟩ : ∃ k : Int, ((pos ds n : Nat) : Int) = k := ⟨_, rfl⟩
  cases hh : has ds n with
  | false =>
    have HF := Aside0.mk (show fromOf ds n = 0 by unfold fromOf; rw [hh]; rfl)
    have HFD := HFIND.out
    rw [hh, hk] at HFD
    have HFD' := Aside0.mk HFD
    clear HFD hh hk
    go_enter Tryd.func46, Tryd.ntmps46
    go_wp2_with fail
    refine HFD'.out.mono ?_
    rintro e w1 ⟨rfl, hb⟩
    have HB := Aside0.mk hb
    clear hb
    go_wp2_with fail
    exact bodyPost_ret (v := .tuple #[.int .i64 0, .bool false]) (by simp [results, Tryd.results46, go_sem]) rfl ⟨by rw [HF.out], HB.out⟩
  | true =>
    obtain ⟨⟨pg, fr⟩, hd⟩ : ∃ d, ds[pos ds n]? = some d := by
      unfold has at hh
      cases hq : ds[pos ds n]? with
      | none => rw [hq] at hh; cases hh
      | some d => exact ⟨d, rfl⟩
    have HF := Aside0.mk (show fromOf ds n = fr by unfold fromOf; rw [hh, hd]; rfl)
    have HFD := HFIND.out
    rw [hh, hk] at HFD
    have HFD' := Aside0.mk HFD
    have hlt := (List.getElem?_eq_some_iff.1 hd).1
    have hk0 : 0 ≤ k := by omega
    have hkl : k < (ds.length : Int) := by omega
    have hkn : k.toNat = pos ds n := by omega
    have HD := Aside0.mk (show ds[k.toNat]? = some (pg, fr) by rw [hkn]; exact hd)
    clear HFD hh hk hd hlt hkn
    go_enter Tryd.func46, Tryd.ntmps46
    go_wp2_with fail
    refine HFD'.out.mono ?_
    rintro e w1 ⟨rfl, hb⟩
    have HB := Aside0.mk hb
    rcases (P2.below HP.out hb).form with ⟨_, h0⟩ | ⟨g, c, hv, hcl, _⟩
    · rw [h0] at hkl; simp at hkl; omega
    · subst hv
      obtain ⟨hc0, hc1⟩ := hcl _ _ HD.out
      have hcv := pw_cell_below hb HC.out
      clear hb hcl
      go_wp2_with fail
      exact bodyPost_ret (v := .tuple #[.int .i64 fr, .bool true]) (by simp [results, Tryd.results46, go_sem]) rfl ⟨by rw [HF.out], HB.out⟩

end Go.Proofs.YtlgpkbhajloajaaDoor.Dirty
/- A pool over a log over a disk, as plain data: what pool's functions do. No condition. -/
namespace Go.Proofs.YtlgpkbhajloajaaDoor.SysD
open Go.RowKit Go.Proofs.YtlgpkbhajloajaaDoor.See Go.Proofs.YtlgpkbhajloajaaDoor.Mem Go.Proofs.YtlgpkbhajloajaaDoor.Clone Go.Proofs.YtlgpkbhajloajaaDoor.Cell Go.Proofs.YtlgpkbhajloajaaDoor.Page Go.Proofs.YtlgpkbhajloajaaDoor.PageB Go.Proofs.YtlgpkbhajloajaaDoor.PageR Go.Proofs.YtlgpkbhajloajaaDoor.Disk Go.Proofs.YtlgpkbhajloajaaDoor.DiskN Go.Proofs.YtlgpkbhajloajaaDoor.DiskW Go.Proofs.YtlgpkbhajloajaaDoor.PageL Go.Proofs.YtlgpkbhajloajaaDoor.RecD Go.Proofs.YtlgpkbhajloajaaDoor.Dirty
set_option linter.unusedVariables false
set_option linter.unusedSimpArgs false

/-- A page that is put into a table; one that is taken out. -/
def addT (ds : List (Int × Int)) (n f : Int) : List (Int × Int) := if has ds n then ds else ds.take (pos ds n) ++ (n, f) :: ds.drop (pos ds n)
def dropT (ds : List (Int × Int)) (n : Int) : List (Int × Int) := if has ds n then ds.eraseIdx (pos ds n) else ds

/-- A page that is here. -/
structure Fp where
  n : Int
  lsn : Int
  es : List (Int × Int)

/-- Where a page is; -1: it is not here. -/
def idxP (n : Int) : List Fp → Int → Int
  | [], _ => -1
  | f :: fs, k => if f.n = n then k else idxP n fs (k + 1)
def findP (fs : List Fp) (n : Int) : Option Fp := fs.find? fun f => decide (f.n = n)

/-- A disk, a log on it, the pages that are dirty, how many frames, the pages that are here. -/
structure PSys where
  d : Dsk
  l : Lg
  t : List (Int × Int)
  frames : Int
  here : List Fp

/-- pool.Flush. -/
def flushS (S : PSys) (n : Int) : PSys × Option Nat :=
  match findP S.here n with
  | none => (S, none)
  | some f =>
    if has S.t n = false then (S, none)
    else
      let q := if S.l.doneN < f.lsn then lflush S.l S.d else (S.l, S.d, none)
      match q.2.2 with
      | some e => ({ S with l := q.1, d := q.2.1 }, some e)
      | none =>
        match writeE q.2.1 n (pageBytes f.lsn f.es) with
        | some e => ({ S with l := q.1, d := writeD q.2.1 n (pageBytes f.lsn f.es) }, some e)
        | none => ({ S with l := q.1, d := writeD q.2.1 n (pageBytes f.lsn f.es), t := dropT S.t n }, none)

/-- pool.Evict. -/
def evictK (S : PSys) (hint : Int) : Nat := (max hint 0).toNat % S.here.length
def evictS (S : PSys) (hint : Int) : PSys × Option Nat :=
  match S.here[evictK S hint]? with
  | none => (S, none)
  | some f =>
    match flushS S f.n with
    | (S', some e) => (S', some e)
    | (S', none) => ({ S' with here := S'.here.eraseIdx (evictK S hint) }, none)

/-- An error: none, one of api's, one of api's with a place. -/
inductive Flt where
  | fine
  | bare (k : Nat)
  | at (pos : Int) (k : Nat)

def Flt.of : Option Nat → Flt
  | none => .fine
  | some k => .bare k

/-- pool.Get. -/
def getS (S : PSys) (n hint : Int) : PSys × (Int × List (Int × Int)) × Flt :=
  match findP S.here n with
  | some f => (S, (f.lsn, f.es), .fine)
  | none =>
    if n < 1 then (S, (0, []), .bare 1)
    else
      let q := if S.frames ≤ S.here.length then evictS S hint else (S, none)
      match q.2 with
      | some e => (q.1, (0, []), .bare e)
      | none =>
        match readE q.1.d n with
        | some e => (q.1, (0, []), .bare e)
        | none =>
          match readPage (readV q.1.d n) with
          | none => (q.1, (0, []), .at n 6)
          | some g => ({ q.1 with here := q.1.here ++ [⟨n, g.1, g.2⟩] }, g, .fine)

/-- pool.Set. -/
def setS (S : PSys) (n lsn : Int) (es : List (Int × Int)) : PSys × Option Nat :=
  match findP S.here n with
  | none => (S, some 1)
  | some f =>
    if pageOk lsn es then ({ S with here := S.here.map fun g => if g.n = n then ⟨n, lsn, es⟩ else g, t := addT S.t n lsn }, none)
    else (S, some 1)

/-- One after the other, till one fails. -/
def flushL : PSys → List Int → PSys × Option Nat
  | S, [] => (S, none)
  | S, n :: ns => match flushS S n with
    | (S', some e) => (S', some e)
    | (S', none) => flushL S' ns

end Go.Proofs.YtlgpkbhajloajaaDoor.SysD
/- The contracts of dirty.Add, dirty.Drop, dirty.All. No condition. -/
namespace Go.Proofs.YtlgpkbhajloajaaDoor.Dirty2
open Go.RowKit Go.Proofs.YtlgpkbhajloajaaDoorW.PrintWords Go.Proofs.YtlgpkbhajloajaaDoorW.PrintLast Go.Proofs.YtlgpkbhajloajaaDoorW.PrintMore
open Go.Proofs.YtlgpkbhajloajaaDoor.See Go.Proofs.YtlgpkbhajloajaaDoor.Mem Go.Proofs.YtlgpkbhajloajaaDoor.Clone Go.Proofs.YtlgpkbhajloajaaDoor.Cell Go.Proofs.YtlgpkbhajloajaaDoor.Page Go.Proofs.YtlgpkbhajloajaaDoor.Dirty Go.Proofs.YtlgpkbhajloajaaDoor.SysD Go.Proofs.YtlgpkbhajloajaaDoor.Del Go.Proofs.YtlgpkbhajloajaaDoor.Ins Go.Proofs.YtlgpkbhajloajaaDoor.DiskW
attribute [local go_sem] max2_imax min2_imin max_two min_two
set_option linter.unusedVariables false
set_option linter.unusedSimpArgs false

theorem pos_has {ds : List (Int × Int)} {n : Int} (h : has ds n = true) : ∃ f, ds[pos ds n]? = some (n, f) := by
  unfold has at h
  cases hq : ds[pos ds n]? with
  | none => rw [hq] at h; cases h
  | some d =>
    rw [hq] at h
    obtain ⟨x, y⟩ := d
    have : x = n := by simpa using h
    subst this
    exact ⟨y, rfl⟩

theorem pos_lt : ∀ (ds : List (Int × Int)) (n : Int) (k : Nat) (d : Int × Int), k < pos ds n → ds[k]? = some d → d.1 < n
  | [], n, k, d, h, hd => by simp at hd
  | e :: ds, n, 0, d, h, hd => by
    unfold pos at h
    simp at hd; subst hd
    by_cases hc : e.1 < n
    · exact hc
    · rw [if_neg hc] at h; omega
  | e :: ds, n, k + 1, d, h, hd => by
    unfold pos at h
    by_cases hc : e.1 < n
    · rw [if_pos hc] at h
      exact pos_lt ds n k d (by omega) (by simpa using hd)
    · rw [if_neg hc] at h; omega
theorem pos_ge : ∀ (ds : List (Int × Int)) (n : Int), Rising ds → ∀ (k : Nat) (d : Int × Int), pos ds n ≤ k → ds[k]? = some d → ¬ d.1 < n
  | [], n, _, k, d, h, hd => by simp at hd
  | e :: ds, n, hr, 0, d, h, hd => by
    unfold pos at h
    simp at hd; subst hd
    by_cases hc : e.1 < n
    · rw [if_pos hc] at h; omega
    · exact hc
  | e :: ds, n, hr, k + 1, d, h, hd => by
    unfold pos at h
    have hr2 := List.pairwise_cons.1 hr
    by_cases hc : e.1 < n
    · rw [if_pos hc] at h
      exact pos_ge ds n hr2.2 k d (by omega) (by simpa using hd)
    · have hm : d ∈ ds := List.mem_of_getElem? (by simpa using hd)
      have := hr2.1 d hm
      omega

theorem addT_rising {ds : List (Int × Int)} (h : Rising ds) (n f : Int) : Rising (addT ds n f) := by
  unfold addT
  cases hh : has ds n with
  | true => simpa using h
  | false =>
    simp only [Bool.false_eq_true, if_false]
    have hp := pos_le ds n
    unfold Rising
    rw [List.pairwise_append]
    have hsub : ds.take (pos ds n) ++ ds.drop (pos ds n) = ds := List.take_append_drop _ _
    have h2 : (ds.take (pos ds n) ++ ds.drop (pos ds n)).Pairwise fun a b => a.1 < b.1 := by rw [hsub]; exact h
    obtain ⟨h3, h4, h5⟩ := List.pairwise_append.1 h2
    have lo : ∀ a ∈ ds.take (pos ds n), a.1 < n := fun a ha => by
      obtain ⟨k, hk, hka⟩ := List.getElem_of_mem ha
      have hk2 : k < pos ds n := by rw [List.length_take] at hk; omega
      refine pos_lt ds n k a hk2 ?_
      rw [List.getElem_take] at hka
      rw [List.getElem?_eq_getElem (by omega), hka]
    have hi : ∀ b ∈ ds.drop (pos ds n), n < b.1 := fun b hb => by
      obtain ⟨k, hk, hkb⟩ := List.getElem_of_mem hb
      rw [List.getElem_drop] at hkb
      rw [List.length_drop] at hk
      have hk3 : ds[pos ds n + k]? = some b := by rw [List.getElem?_eq_getElem (by omega), hkb]
      have h6 := pos_ge ds n h (pos ds n + k) b (by omega) hk3
      by_cases hkz : k = 0
      · subst hkz
        have hne : b.1 ≠ n := fun e => by
          unfold has at hh
          rw [show pos ds n = pos ds n + 0 from rfl, hk3] at hh
          simp [e] at hh
        omega
      · obtain ⟨c, hc⟩ : ∃ c, ds[pos ds n]? = some c := ⟨_, List.getElem?_eq_getElem (by omega)⟩
        have h7 := pos_ge ds n h (pos ds n) c (Nat.le_refl _) hc
        obtain ⟨hc1, hc2⟩ := List.getElem?_eq_some_iff.1 hc
        obtain ⟨hb1, hb2⟩ := List.getElem?_eq_some_iff.1 hk3
        have := List.pairwise_iff_getElem.1 h (pos ds n) (pos ds n + k) hc1 hb1 (by omega)
        rw [hc2, hb2] at this
        omega
    refine ⟨h3, List.pairwise_cons.2 ⟨fun b hb => hi b hb, h4⟩, fun a ha b hb => ?_⟩
    rcases List.mem_cons.1 hb with rfl | hb
    · exact lo a ha
    · exact h5 a ha b hb

theorem dropT_rising {ds : List (Int × Int)} (h : Rising ds) (n : Int) : Rising (dropT ds n) := by
  unfold dropT
  split
  · exact h.sublist (List.eraseIdx_sublist _ _)
  · exact h

/-- A pool's block, its table of dirty pages. -/
structure TabM (M : Nat → Prop) (w : World) (p : Nat) (cs : Array Value) (v : Value) (ds : List (Int × Int)) : Prop where
  box : w.heap[p]? = some (.cells cs 79 (0, 0))
  at0 : cs[0]? = some v
  row : P2 w 57 v ds
  low : ∀ k, v.ownBlock = some k → M k
  mp : M p
  rise : Rising ds

/-- What turns where a table does. -/
def tTurn : List Nat := [79, 57]

theorem TabM.cell {M : Nat → Prop} {w : World} {p : Nat} {cs : Array Value} {v : Value} {ds : List (Int × Int)} (h : TabM M w p cs v ds) : w.cell? ⟨p, 0, none⟩ = some v := by
  simp only [World.cell?, h.box]; simpa using h.at0
theorem TabM.frozen {M : Nat → Prop} {w : World} {p : Nat} {cs : Array Value} {v : Value} {ds : List (Int × Int)} (h : TabM M w p cs v ds) (i : Nat) : w.frozen? ⟨p, i, none⟩ = false := by simp [World.frozen?, h.box]
theorem TabM.own_ne {M : Nat → Prop} {w : World} {p : Nat} {cs : Array Value} {v : Value} {ds : List (Int × Int)} (h : TabM M w p cs v ds) : v.ownBlock ≠ some p := fun e => by
  obtain ⟨_, c, hc⟩ := ow_block h.row.1 e
  rw [h.box] at hc
  injection hc with hc; injection hc with _ hc
  exact absurd hc (by decide)

theorem cells2_insert (ds : List (Int × Int)) (i : Nat) (n f : Int) : cells2 (ds.take i ++ (n, f) :: ds.drop i) = (cells2 ds).take (i * 2) ++ ([.int .i64 n, .int .i64 f] ++ (cells2 ds).drop (i * 2)) := by
  have key : ∀ (ds : List (Int × Int)) (i : Nat), cells2 (ds.take i) = (cells2 ds).take (i * 2) ∧ cells2 (ds.drop i) = (cells2 ds).drop (i * 2) := by
    intro ds
    induction ds with
    | nil => intro i; simp [cells2]
    | cons d ds ih =>
      intro i
      cases i with
      | zero => simp [cells2]
      | succ i =>
        obtain ⟨h1, h2⟩ := ih i
        unfold cells2 at h1 h2 ⊢
        simp only [List.take_succ_cons, List.drop_succ_cons, List.flatMap_cons]
        rw [h1, h2, show (i + 1) * 2 = i * 2 + 1 + 1 from by omega]
        simp
  obtain ⟨h1, h2⟩ := key ds i
  rw [cells2_append, h1]
  have : cells2 ((n, f) :: ds.drop i) = [.int .i64 n, .int .i64 f] ++ cells2 (ds.drop i) := by simp [cells2, List.flatMap_cons]
  rw [this, h2]

theorem cells2_erase (ds : List (Int × Int)) (i : Nat) (h : i < ds.length) : cells2 (ds.eraseIdx i) = (cells2 ds).take (i * 2) ++ (cells2 ds).drop ((i + 1) * 2) := by
  induction ds generalizing i with
  | nil => simp at h
  | cons d ds ih =>
    cases i with
    | zero => simp [cells2, List.flatMap_cons]
    | succ i =>
      have := ih i (by simpa using h)
      unfold cells2 at this ⊢
      simp only [List.eraseIdx_cons_succ, List.flatMap_cons]
      rw [this]
      have e1 : ∀ X : List Value, ([Value.int .i64 d.1, Value.int .i64 d.2] ++ X).take ((i + 1) * 2) = [Value.int .i64 d.1, Value.int .i64 d.2] ++ X.take (i * 2) := fun X => by
        rw [show (i + 1) * 2 = i * 2 + 1 + 1 from by omega]; rfl
      have e2 : ∀ X : List Value, ([Value.int .i64 d.1, Value.int .i64 d.2] ++ X).drop ((i + 1 + 1) * 2) = X.drop ((i + 1) * 2) := fun X => by
        rw [show (i + 1 + 1) * 2 = (i + 1) * 2 + 1 + 1 from by omega]; rfl
      rw [e1, e2, List.append_assoc]

/-- The table's row turned, then its cell. -/
theorem tab_put {M : Nat → Prop} {w w1 : World} {p : Nat} {cs : Array Value} {v v' : Value} {ds ds' : List (Int × Int)} (h : TabM M w p cs v ds) (ho : w1.ownsRow 0 57 2 v' ds'.length (cells2 ds')) (hl : ds'.length ≤ 100000) (hr : Rising ds') (hg : w.grownBy w1 v.ownBlock)
    (hat : v'.ownBlock = v.ownBlock ∨ ∀ k, v'.ownBlock = some k → w.heap.size ≤ k) :
    TabM (Gr M w w1) (w1.setCell ⟨p, 0, none⟩ v') p (cs.setIfInBounds 0 v') v' ds' ∧ Frm tTurn M w (w1.setCell ⟨p, 0, none⟩ v') := by
  have hpl := heap_lt h.box
  have hb1 : w1.heap[p]? = some (.cells cs 79 (0, 0)) := (hg.block p hpl (fun e => h.own_ne e.symm)).trans h.box
  have hne : v'.ownBlock ≠ some p := fun e => by
    obtain ⟨_, c, hc⟩ := ow_block ho e
    rw [hb1] at hc
    injection hc with hc; injection hc with _ hc
    exact absurd hc (by decide)
  have h0 : 0 < cs.size := (Array.getElem?_eq_some_iff.1 h.at0).1
  have hF1 : Frm tTurn M w w1 := (Frm.refl tTurn M w).grown hg (fun k hk hlt => ⟨h.low k hk, by obtain ⟨_, c, hc⟩ := ow_block h.row.1 hk; rw [tag_of hc]; decide⟩)
  refine ⟨⟨?_, ?_, ⟨ow_move ho fun k hk => Below.heap_setCell _ _ _ _ (fun e => hne (by rw [hk]; exact congrArg some e)), hl⟩, fun k hk => ?_, .inl h.mp, hr⟩, hF1.set (fun _ => ⟨h.mp, by rw [tag_of h.box]; decide⟩) _⟩
  · exact heap_setCell_same _ _ _ _ _ _ hb1
  · simp [h0]
  · rcases hat with hat | hat
    · exact .inl (h.low k (hat ▸ hk))
    · obtain ⟨_, c, hc⟩ := ow_block ho hk
      exact .inr ⟨hat k hk, heap_lt hc⟩

/-- What has changed of a table. -/
def TabPost (M : Nat → Prop) (p : Nat) (cs : Array Value) (ds' : List (Int × Int)) (w w' : World) : Prop := ∃ v', TabM (Gr M w w') w' p (cs.setIfInBounds 0 v') v' ds' ∧ Frm tTurn M w w'

theorem TabM.below {M : Nat → Prop} {w w' : World} {p : Nat} {cs : Array Value} {v : Value} {ds : List (Int × Int)} (h : TabM M w p cs v ds) (hb : Below w.heap.size w w') : TabM M w' p cs v ds :=
  ⟨(hb.block p (heap_lt h.box)).trans h.box, h.at0, h.row.below hb, h.low, h.mp, h.rise⟩
theorem TabM.mono {M M' : Nat → Prop} {w : World} {p : Nat} {cs : Array Value} {v : Value} {ds : List (Int × Int)} (h : TabM M w p cs v ds) (hm : ∀ k, M k → M' k) : TabM M' w p cs v ds :=
  ⟨h.box, h.at0, h.row, fun k hk => hm k (h.low k hk), hm p h.mp, h.rise⟩

theorem tab_same {M : Nat → Prop} {w w' : World} {p : Nat} {cs : Array Value} {v : Value} {ds : List (Int × Int)} (h : TabM M w p cs v ds) (hb : Below w.heap.size w w') : TabPost M p cs ds w w' :=
  ⟨v, by
    have e : cs.setIfInBounds 0 v = cs := by
      apply Array.ext_getElem?
      intro i
      by_cases hi : i = 0
      · subst hi
        have := (Array.getElem?_eq_some_iff.1 h.at0).1
        simp [this, h.at0]
        exact (Array.getElem?_eq_some_iff.1 h.at0).2.symm ▸ rfl
      · simp [Array.getElem?_setIfInBounds, show 0 ≠ i from fun e => hi e.symm]
    rw [e]
    exact (h.below hb).mono fun k hk => .inl hk, Frm.of_below hb⟩

set_option maxHeartbeats 4000000 in
set_option maxRecDepth 100000 in
theorem add_calls (M : Nat → Prop) (p : Nat) (cs : Array Value) (v : Value) (ds : List (Int × Int)) (n f : Int) (w : World) (ht : TabM M w p cs v ds) (hl : ds.length ≤ 90000) :
    Calls Tryd.prog 37 #[.pointer (some ⟨p, 0, none⟩), .int .i64 n, .int .i64 f] w fun e w' => e = .returned (.tuple #[]) ∧ TabPost M p cs (addT ds n f) w w' := by
  have HT := Aside0.mk ht
  have hpl := heap_lt ht.box
  have HFD := Aside0.mk (find_calls p v ds n w ht.row ht.rise ht.cell)
  have HLL := Aside0.mk hl
  clear ht hl
  obtain ⟨k, hk⟩ : ∃ k : Nat, pos ds n = k := ⟨_, rfl⟩
  have HK := Aside0.mk hk
  cases hh : has ds n with
  | true =>
    have HA := Aside0.mk (show addT ds n f = ds by unfold addT; rw [hh]; rfl)
    have HFD' := HFD.out
    rw [hh, hk] at HFD'
    replace HFD := Aside0.mk HFD'
    clear HFD' hh hk
    go_enter Tryd.func37, Tryd.ntmps37
    go_wp2_with fail
    refine HFD.out.mono ?_
    rintro e w1 ⟨rfl, hb⟩
    have HB := Aside0.mk hb
    clear hb
    go_wp2_with fail
    go_end0
    exact ⟨rfl, by rw [HA.out]; exact tab_same HT.out HB.out⟩
  | false =>
    have HA := Aside0.mk (show addT ds n f = ds.take k ++ (n, f) :: ds.drop k by unfold addT; rw [hh, hk]; rfl)
    have hkl : k ≤ ds.length := by rw [← hk]; exact pos_le ds n
    have HFD' := HFD.out
    rw [hh, hk] at HFD'
    replace HFD := Aside0.mk HFD'
    have HRI := Aside0.mk (addT_rising HT.out.rise n f)
    clear HFD' hh hk
    go_enter Tryd.func37, Tryd.ntmps37
    go_wp2_with fail
    refine HFD.out.mono ?_
    rintro e w1 ⟨rfl, hb⟩
    have HB := Aside0.mk hb
    have ht1 := HT.out.below hb
    have hc0 := ht1.cell
    have HT1 := Aside0.mk ht1
    have hpl1 := heap_lt ht1.box
    obtain ⟨A, cap, hv, _⟩ := ow_slice ht1.row.1
    clear hb ht1
    subst hv
    go_wp2_with fail
    have htw := TabM.below HT1.out (below_alloc (Below.refl _ _) (.cells #[.int .i64 n, .int .i64 f] 57))
    refine (ins_dirties 0 ds.length k w1.heap.size (.slice A ds.length cap) (cells2 ds) [.int .i64 n, .int .i64 f] _ htw.row.1 (cells2_one ds) (by have := HLL.out; omega) hkl (heap_alloc_new w1 _) (fun e => by
      obtain ⟨_, c, hc⟩ := ow_block HT1.out.row.1 e
      have := heap_lt hc
      omega) rfl (by intro u hu; simp at hu; rcases hu with rfl | rfl <;> rfl) (Nat.zero_le _)).mono ?_
    rintro e w2 ⟨v', rfl, ho, hg, hat⟩
    have HO2 := Aside0.mk ho
    have HG2 := Aside0.mk hg
    have HAT := Aside0.mk hat
    have hb2 : w2.heap[p]? = some (.cells cs 79 (0, 0)) := (hg.block p (by simp; omega) (fun e => HT1.out.own_ne e.symm)).trans htw.box
    have hz2 : w2.frozen? ⟨p, 0, none⟩ = false := by simp [World.frozen?, hb2]
    have hc2 : w2.cell? ⟨p, 0, none⟩ = some (.slice A ds.length cap) := by simp only [World.cell?, hb2]; simpa using HT1.out.at0
    obtain ⟨A2, cap2, hv2, _⟩ := ow_slice ho
    clear ho hg hat hb2 htw
    subst hv2
    go_wp2_with fail
    go_end0
    refine ⟨rfl, .slice A2 (ds.length + 1) cap2, ?_⟩
    have hlen : (addT ds n f).length = ds.length + 1 := by rw [HA.out, List.length_append, List.length_cons, List.length_take, List.length_drop]; omega
    have hcl : cells2 (addT ds n f) = (cells2 ds).take (k * 2) ++ ([.int .i64 n, .int .i64 f] ++ (cells2 ds).drop (k * 2)) := by rw [HA.out]; exact cells2_insert ds k n f
    have hgr : w.grownBy w2 (Value.slice A ds.length cap).ownBlock := by
      have h1 := HB.out
      have h2 := HG2.out
      exact ⟨h2.os.trans h1.os, h2.tape.trans h1.tape, h2.output.trans h1.output, Nat.le_trans h1.size (Nat.le_trans (by simp) h2.size), fun j hj hne => (h2.block j (by simp; have := h1.size; omega) hne).trans ((Below.heap_alloc _ _ _ (by have := h1.size; omega)).trans (h1.block j hj))⟩
    obtain ⟨r1, r2⟩ := tab_put HT.out (w1 := w2) (v' := .slice A2 (ds.length + 1) cap2) (ds' := addT ds n f) (by rw [hlen, hcl]; exact HO2.out) (by have := HLL.out; omega) HRI.out hgr (by
      rcases HAT.out with h | h
      · exact .inl h
      · exact .inr fun j hj => by have := h j hj; have := HB.out.size; simp at *; omega)
    exact ⟨r1.mono fun j hj => by
      rcases hj with hj | ⟨h1, h2⟩
      · exact .inl hj
      · exact .inr ⟨h1, by simpa [World.setCell] using h2⟩, r2⟩

set_option maxHeartbeats 4000000 in
set_option maxRecDepth 100000 in
theorem drop_calls (M : Nat → Prop) (p : Nat) (cs : Array Value) (v : Value) (ds : List (Int × Int)) (n : Int) (w : World) (ht : TabM M w p cs v ds) (hl : ds.length ≤ 90000) :
    Calls Tryd.prog 49 #[.pointer (some ⟨p, 0, none⟩), .int .i64 n] w fun e w' => e = .returned (.bool (has ds n)) ∧ TabPost M p cs (dropT ds n) w w' := by
  have HT := Aside0.mk ht
  have hpl := heap_lt ht.box
  have HFD := Aside0.mk (find_calls p v ds n w ht.row ht.rise ht.cell)
  have HLL := Aside0.mk hl
  have hl9 : ds.length ≤ 90000 := hl
  clear ht hl
  obtain ⟨k, hk⟩ : ∃ k : Nat, pos ds n = k := ⟨_, rfl⟩
  cases hh : has ds n with
  | false =>
    have HA := Aside0.mk (show dropT ds n = ds by unfold dropT; rw [hh]; rfl)
    have HFD' := HFD.out
    rw [hh, hk] at HFD'
    replace HFD := Aside0.mk HFD'
    clear HFD' hh hk
    go_enter Tryd.func49, Tryd.ntmps49
    go_wp2_with fail
    refine HFD.out.mono ?_
    rintro e w1 ⟨rfl, hb⟩
    have HB := Aside0.mk hb
    clear hb
    go_wp2_with fail
    go_ret
    exact ⟨by simp, by rw [HA.out]; exact tab_same HT.out HB.out⟩
  | true =>
    obtain ⟨f, hf⟩ := pos_has hh
    have hkl : k < ds.length := by rw [← hk]; exact (List.getElem?_eq_some_iff.1 hf).1
    have HA := Aside0.mk (show dropT ds n = ds.eraseIdx k by unfold dropT; rw [hh, hk]; rfl)
    have HRI := Aside0.mk (dropT_rising HT.out.rise n)
    have HFD' := HFD.out
    rw [hh, hk] at HFD'
    replace HFD := Aside0.mk HFD'
    clear HFD' hh hk hf
    go_enter Tryd.func49, Tryd.ntmps49
    go_wp2_with fail
    refine HFD.out.mono ?_
    rintro e w1 ⟨rfl, hb⟩
    have HB := Aside0.mk hb
    have ht1 := HT.out.below hb
    have hc0 := ht1.cell
    have HT1 := Aside0.mk ht1
    obtain ⟨g, cap, hv, _, _⟩ := ht1.row.1.form (by omega)
    clear hb ht1
    subst hv
    go_wp2_with fail
    have hj1 : (k : Int) + 1 = ((k + 1 : Nat) : Int) := by omega
    rw [hj1]
    clear hj1
    refine (del_dirties 0 g ds.length cap k (k + 1) (cells2 ds) _ HT1.out.row.1 (cells2_one ds) hkl rfl).mono ?_
    rintro e w2 ⟨rfl, ho, hg, hz⟩
    have HO2 := Aside0.mk ho
    have HG2 := Aside0.mk hg
    have hb2 : w2.heap[p]? = some (.cells cs 79 (0, 0)) := (hg.block p (heap_lt HT1.out.box) (fun e => HT1.out.own_ne e.symm)).trans HT1.out.box
    have hz2 : w2.frozen? ⟨p, 0, none⟩ = false := by simp [World.frozen?, hb2]
    have hc2 : w2.cell? ⟨p, 0, none⟩ = some (.slice (some ⟨g, 0, none⟩) ds.length cap) := by simp only [World.cell?, hb2]; simpa using HT1.out.at0
    clear ho hg hb2 hz
    go_wp2_with fail
    go_ret
    refine ⟨by simp, .slice (some ⟨g, 0, none⟩) (ds.length - 1) cap, ?_⟩
    have hlen : (dropT ds n).length = ds.length - 1 := by rw [HA.out, List.length_eraseIdx, if_pos hkl]
    have hcl : cells2 (dropT ds n) = (cells2 ds).take (k * 2) ++ (cells2 ds).drop ((k + 1) * 2) := by rw [HA.out]; exact cells2_erase ds k hkl
    have hgr : w.grownBy w2 (Value.slice (some ⟨g, 0, none⟩) ds.length cap).ownBlock := by
      have h1 := HB.out
      have h2 := HG2.out
      exact ⟨h2.os.trans h1.os, h2.tape.trans h1.tape, h2.output.trans h1.output, Nat.le_trans h1.size h2.size, fun j hj hne => (h2.block j (by have := h1.size; omega) hne).trans (h1.block j hj)⟩
    obtain ⟨r1, r2⟩ := tab_put HT.out (w1 := w2) (v' := .slice (some ⟨g, 0, none⟩) (ds.length - 1) cap) (ds' := dropT ds n) (by rw [hlen, hcl]; exact HO2.out) (by omega) HRI.out hgr (.inl rfl)
    exact ⟨r1.mono fun j hj => by
      rcases hj with hj | ⟨h1, h2⟩
      · exact .inl hj
      · exact .inr ⟨h1, by simpa [World.setCell] using h2⟩, r2⟩

set_option maxHeartbeats 1000000 in
set_option maxRecDepth 100000 in
theorem all_calls (M : Nat → Prop) (p : Nat) (cs : Array Value) (v : Value) (ds : List (Int × Int)) (w : World) (ht : TabM M w p cs v ds) :
    Calls Tryd.prog 45 #[.pointer (some ⟨p, 0, none⟩)] w fun e w' => ∃ v', e = .returned v' ∧ P2 w' 57 v' ds ∧ Below w.heap.size w w' := by
  have hc0 := ht.cell
  obtain ⟨A, cap, hv, _⟩ := ow_slice ht.row.1
  have HC := Aside0.mk (clone_dirties v ds.length (cells2 ds) w (P2.rd ht.row) (cells2_one ds))
  have HL := Aside0.mk ht.row.2
  clear ht
  subst hv
  go_enter Tryd.func45, Tryd.ntmps45
  go_wp2_with fail
  refine HC.out.mono ?_
  rintro e w1 ⟨v1, rfl, ho, hb⟩
  have HO := Aside0.mk ho
  have HB := Aside0.mk hb
  obtain ⟨A1, c1, rfl, _⟩ := ow_slice ho
  clear ho hb
  go_wp2_with fail
  go_ret
  exact ⟨_, rfl, ⟨ow_base HO.out (Nat.zero_le _), HL.out⟩, HB.out⟩

end Go.Proofs.YtlgpkbhajloajaaDoor.Dirty2
