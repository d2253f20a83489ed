/- The walk of PartsOf: it answers true. No condition. -/
import Derived.Test.YtfnahgmajdjepaaWalkOf
namespace Go.Proofs.Ytfnahgmajdjepaa.WalkPartsOf
open Go.RowKit Go.Proofs.Ytfnahgmajdjepaa.PPlaceSays Go.Proofs.YtfnahgmajdjepaaW.PrintWords Go.Proofs.YtfnahgmajdjepaaW.PrintLast Go.Proofs.YtfnahgmajdjepaaW.PrintMore
open Go.Proofs.Ytfnahgmajdjepaa.Facts Go.Proofs.Ytfnahgmajdjepaa.Owner Go.Proofs.Ytfnahgmajdjepaa.QueueMem Go.Proofs.Ytfnahgmajdjepaa.WalkClone Go.Proofs.Ytfnahgmajdjepaa.WalkOf
set_option linter.unusedVariables false
set_option linter.unusedSimpArgs false

/-- What the queues that are handed in are. -/
def Fine (ps : List It) : Prop := ∀ (j : Nat) (t : It), ps[j]? = some t → 1 ≤ t.page ∧ t.page ≤ 3 * ((j : Int) + 1) ∧ t.x = (j : Int) + 1

theorem Fine.snoc {ps : List It} (h : Fine ps) (t : It) (h1 : 1 ≤ t.page) (h2 : t.page ≤ 3 * ((ps.length : Int) + 1)) (h3 : t.x = (ps.length : Int) + 1) : Fine (ps ++ [t]) := by
  intro j s hs
  rcases Nat.lt_trichotomy j ps.length with e | e | e
  · rw [List.getElem?_append_left e] at hs
    exact h j s hs
  · subst e
    rw [List.getElem?_append_right (Nat.le_refl _)] at hs
    simp at hs
    subst hs
    exact ⟨h1, h2, h3⟩
  · rw [List.getElem?_append_right (by omega), List.getElem?_eq_none (by simp; omega)] at hs
    cases hs

theorem mine_at (k w : Int) : ∀ (ps : List It) (i : Nat) (t : It), ps[i]? = some t → (t.page - 1) % k = w → (mine k w ps)[(mine k w (ps.take i)).length]? = some t
  | [], i, t, h, _ => by simp at h
  | s :: ps, 0, t, h, hm => by
    simp at h; subst h
    simp [mine, hm]
  | s :: ps, i + 1, t, h, hm => by
    have := mine_at k w ps i t (by simpa using h) hm
    unfold mine at this ⊢
    rw [List.take_succ_cons, List.filter_cons, List.filter_cons]
    by_cases e : ((s.page - 1) % k == w) = true
    · rw [if_pos e, if_pos e]; simpa using this
    · rw [if_neg e, if_neg e]; exact this

theorem news_at2 (w : World) (a b : Value) : ∀ (j : Nat) (u : Value), [a, b][j]? = some u → (w.alloc (.cells #[a, b] 36)).cell? ((⟨w.heap.size, 0, none⟩ : Addr).add j) = some u := cell_two_new w a b 36

theorem news_at3 (w : World) (n : Nat) (o : Obj) (a b : Value) : ∀ (j : Nat) (u : Value), [a, b][j]? = some u → (((w.drewN n).alloc o).alloc (.cells #[a, b] 36)).cell? ((⟨w.heap.size + 1, 0, none⟩ : Addr).add j) = some u := by
  have e : ((w.drewN n).alloc o).heap.size = w.heap.size + 1 := by rw [World.size_alloc]; rfl
  have h := cell_two_new ((w.drewN n).alloc o) a b 36
  rw [e] at h
  exact h

theorem inner_new (w : World) (n : Nat) (p x : Int) (c : Nat) (o : Obj) : Inner (((w.drewN n).alloc (Obj.cells #[.int .i64 x] 3)).alloc o) ⟨p, x, w.heap.size, c⟩ := by
  refine Inner.below (W := (w.drewN n).alloc (Obj.cells #[.int .i64 x] 3)) ⟨#[.int .i64 x], ?_, rfl⟩ (below_alloc (Below.refl _ _) _)
  show (w.heap.push _)[w.heap.size]? = _
  exact Array.getElem?_push_size

set_option maxHeartbeats 4000000 in
set_option maxRecDepth 100000 in
theorem of_law (A : Option Addr) (c : Nat) (l : List Int) (_hlc : l.length ≤ c) (hlm : l.length ≤ maxLen) (a1 a2 : Int) (w : World) (hC : Kd.C (Kd.int .i64) w A l.length l) :
    Calls Try.prog 9 #[.slice A l.length c, .int .i64 a1, .int .i64 a2] w fun e w' => e = .returned (.bool true) ∧ Below w.heap.size w w' := by
  unfold maxLen at hlm
  obtain ⟨b, hb, hb0, hb1⟩ := num_of a2 9 (by omega) (by omega)
  obtain ⟨m, hm, hm0, hm1⟩ := num_of a1 (b + 1) (by omega) (by omega)
  have HN := Aside0.mk hb
  have HM := Aside0.mk hm
  have HC := Aside0.mk hC
  have HWK := Aside0.mk (show wk (b + 1) = b + 1 by unfold wk; rw [if_neg (by omega), if_neg (by omega)])
  obtain ⟨i0, hi, hzz⟩ := Option.map_eq_some_iff.1 info36
  simp only [Prod.mk.injEq] at hzz
  have HI0 := Aside0.mk (And.intro hi hzz)
  clear hb hm hC hi hzz
  by_cases hl20 : (20 : Int) < (l.length : Int)
  · go_enter Try.func9, Try.ntmps9
    go_wp2_with fail
    refine (first_calls _).mono ?_
    rintro e w1 ⟨rfl, hB⟩
    go_wp2_with fail
    go_ret
    exact ⟨rfl, hB⟩
  · go_enter Try.func9, Try.ntmps9
    go_wp2_with fail
    refine (first_calls _).mono ?_
    rintro e w1 ⟨rfl, hB⟩
    have HB := Aside0.mk hB
    clear hB
    go_wp2_with fail
    refine (phoenixworld_Number.calls _ _ _ _ HN.out).mono ?_
    rintro e w' ⟨rfl, ⟨nd1, rfl⟩⟩
    go_wp2_with fail
    refine (phoenixworld_Number.calls _ _ _ _ HM.out).mono ?_
    rintro e w' ⟨rfl, ⟨nd2, rfl⟩⟩
    go_wp2_with fail
    go_loopg [8, 9, 10] (l.length + 1) (fun kq v8 v9 v10 w' => ∃ (at_ : Int) (i : Nat) (ps : List It), v9 = .int .i64 at_ ∧ v10 = .int .i64 (i : Int) ∧ 0 ≤ at_ ∧ at_ ≤ 3 * (i : Int) ∧ Aside0 (kq + i = l.length + 1 ∧ i ≤ l.length) ∧ Aside0 (Items w' w.heap.size v8 ps) ∧ Aside0 (Fine ps) ∧ Aside0 (ps.length = i) ∧ Aside0 (Below w.heap.size w w'))
    case atStart => exact ⟨0, 0, [], rfl, rfl, by omega, by omega, ⟨by omega⟩, ⟨Items.nil _ _⟩, ⟨show Fine [] from fun j t h => by simp at h⟩, ⟨rfl⟩, ⟨by repeat (first | exact HB.out | apply pw_below_drewN | apply below_drew1 | apply below_alloc)⟩⟩
    case round =>
      clear HB
      obtain ⟨at_, i, ps, rfl, rfl, at0, at1, HI, HQ, HF, HE, HB⟩ := hrel
      by_cases hlt : (i : Int) < (l.length : Int)
      · have hi0 : (0 : Int) ≤ (i : Int) := by omega
        obtain ⟨ad, e, hc⟩ := Kd.at_int (Kd.C_below HC.out HB.out) (i : Int) hi0 hlt
        cases e
        rw [Int.toNat_natCast] at hc
        obtain ⟨x, hx⟩ : ∃ x, rd l (i : Int) = x := ⟨_, rfl⟩
        rw [hx] at hc
        clear hx
        obtain ⟨y, hy, hy0, hy1⟩ := num_of x 3 (by omega) (by omega)
        have HY := Aside0.mk hy
        clear hy
        have hl20' : (l.length : Int) ≤ 20 := by omega
        go_wp2_with fail
        refine (phoenixworld_Number.calls _ _ _ _ HY.out).mono ?_
        rintro e w' ⟨rfl, ⟨nd3, rfl⟩⟩
        obtain ⟨hi, hz0, hz1, hz2⟩ := HI0.out
        have HO := Aside0.mk (((HQ.out.below (pw_below_drewN (Below.refl _ _) nd3)).below (below_alloc (Below.refl _ _) (Obj.cells #[.int .i64 ((i : Int) + 1)] 3))).below (below_alloc (Below.refl _ _) (Obj.cells #[.int .i64 (at_ + 1 + y), .slice (some ⟨wr.heap.size, 0, none⟩) 1 1] 36)))
        go_wp2_with (at_builtin; refine wpList_append_lies _ (by rfl) _ _ 34 (by rfl) w.heap.size 36 i0 (.agg #[.int .i64 0, .slice none 0 0]) 2 32 Try.underlying34 hi hz0 hz1 hz2 rfl (by decide) _ ps.length (cells ps) (by rfl) ?own ⟨wr.heap.size + 1, 0, none⟩ 1 1 [.int .i64 (at_ + 1 + y), .slice (some ⟨wr.heap.size, 0, none⟩) 1 1] (by rfl) rfl ?news ?one (by decide) ?len ?bytes ?base (wr.heap.size + 2) ?hh ?_)
        case own => exact HO.out.row
        case news => exact news_at3 _ _ _ _ _
        case one => exact news_one _ _ _
        case len => unfold maxLen; have := HE.out; omega
        case bytes => have := HE.out; omega
        case base => have := HB.out.size; rw [World.size_alloc, World.size_alloc]; exact Nat.le_succ_of_le (Nat.le_succ_of_le this)
        case hh => rw [World.size_alloc, World.size_alloc]; rfl
        intro g cap w3 hown hgr hor hlt3
        have HQ3 := Aside0.mk (Items.snoc (t := ⟨at_ + 1 + y, (i : Int) + 1, wr.heap.size, 1⟩) HO.out hown hgr (inner_new _ _ _ _ _ _) (show w.heap.size ≤ wr.heap.size from HB.out.size) (fun s hs => Nat.ne_of_lt (HQ.out.inner s hs).lt))
        have HF3 := Aside0.mk (HF.out.snoc ⟨at_ + 1 + y, (i : Int) + 1, wr.heap.size, 1⟩ (show (1 : Int) ≤ at_ + 1 + y by omega) (show at_ + 1 + y ≤ 3 * ((ps.length : Int) + 1) by have := HE.out; omega) (show (i : Int) + 1 = (ps.length : Int) + 1 by have := HE.out; omega))
        have HB3 := Aside0.mk (pw_below_grown (below_alloc (below_alloc (pw_below_drewN HB.out nd3) (Obj.cells #[.int .i64 ((i : Int) + 1)] 3)) (Obj.cells #[.int .i64 (at_ + 1 + y), .slice (some ⟨wr.heap.size, 0, none⟩) 1 1] 36)) _ (by have := HB.out.size; rw [World.size_alloc, World.size_alloc]; exact Nat.le_succ_of_le (Nat.le_succ_of_le this)) hgr (fun k hk => (row_block HQ.out.row hk).1))
        have HG := Aside0.mk (show (Value.slice (some ⟨g, 0, none⟩) (ps.length + 1) cap) = (Value.slice (some ⟨g, 0, none⟩) (i + 1) cap) by rw [HE.out])
        clear hown hgr hor hlt3 hi hz0 hz1 hz2
        go_wp2_with fail
        go_roundg (gk - 1)
        case measure => have := HI.out; omega
        case rel => exact ⟨at_ + 1 + y, i + 1, _, rfl, by simp, by omega, by simp; omega, ⟨by have := HI.out; omega⟩, HQ3, HF3, ⟨by rw [List.length_append]; have := HE.out; simp; omega⟩, HB3⟩
      · have hEq : i = l.length := by have := HI.out; omega
        have HEq := Aside0.mk hEq
        clear hEq
        obtain ⟨A2, cap2, hv⟩ := HQ.out.slice
        subst hv
        have HPL := Aside0.mk (fun t ht => (HQ.out.inner t ht).lt : ∀ t ∈ ps, t.d < wr.heap.size)
        have HPR := Aside0.mk (row_lt HQ.out.row)
        have HBO := Aside0.mk (show w.heap.size ≤ wr.heap.size from HB.out.size)
        have hpl : (ps.length : Int) ≤ 20 := by have := HE.out; have := HEq.out; omega
        have HFP := Aside0.mk (fun t ht => by
          obtain ⟨j, hj, hjt⟩ := List.getElem_of_mem ht
          have := HF.out j t (by rw [List.getElem?_eq_getElem hj, hjt])
          omega : ∀ t ∈ ps, 1 ≤ t.page ∧ t.page ≤ 1000)
        obtain ⟨wo, hwo⟩ : ∃ wo : World, wo = wr := ⟨_, rfl⟩
        subst hwo
        go_wp2_with fail
        refine (of_calls _ ps _ _ _ _ HQ.out HFP.out (by omega)).mono ?_
        intro e w2 hof
        obtain ⟨v', qs, rfl, hq, hsaid, hB⟩ := hof
        rw [HWK.out] at hsaid
        have HQ2 := Aside0.mk (HQ.out.below hB)
        have HG := Aside0.mk hq
        have HS := Aside0.mk hsaid
        have HB2 := Aside0.mk (below_step HB.out hB)
        have hqn : qs.length ≤ ps.length := by have := congrArg List.length hsaid; simp at this; have := mine_le (b + 1) m ps; omega
        have hql : (qs.length : Int) ≤ 20 := by omega
        obtain ⟨A3, cap3, hv3⟩ := hq.slice
        subst hv3
        clear hq hsaid hB hqn
        go_wp2_with fail
        go_loopg [12, 13] (ps.length + 1) (fun kq v12 v13 w' => ∃ (n i : Nat) (gs : List It), v12 = .int .i64 (n : Int) ∧ v13 = .int .i64 (i : Int) ∧ (n : Int) ≤ (i : Int) ∧ Aside0 (kq + i = ps.length + 1 ∧ i ≤ ps.length) ∧ Aside0 (n = (mine (b + 1) m (ps.take i)).length) ∧
          Aside0 (Items w' wo.heap.size (.slice A3 qs.length cap3) gs) ∧ Aside0 (Items w' w.heap.size (.slice A2 ps.length cap2) ps) ∧ Aside0 (gs.length = qs.length) ∧ Aside0 (∀ j, n ≤ j → gs[j]? = qs[j]?) ∧ Aside0 (Below w.heap.size w w'))
        case atStart => exact ⟨0, 0, qs, rfl, rfl, by omega, ⟨by omega⟩, ⟨by simp [mine]⟩, HG, HQ2, ⟨rfl⟩, ⟨fun j _ => rfl⟩, HB2⟩
        case round =>
          clear HB HQ HG HQ2 HB2 HI
          obtain ⟨n, i, gs, rfl, rfl, hni, HI, HN2, HG, HQ, HGL, HGJ, HB⟩ := hrel
          by_cases hlt : (i : Int) < (ps.length : Int)
          · have hi0 : (0 : Int) ≤ (i : Int) := by omega
            have hn0 : (0 : Int) ≤ (n : Int) := by omega
            obtain ⟨t, ht⟩ : ∃ t, ps[i]? = some t := ⟨ps[i]'(by omega), List.getElem?_eq_getElem _⟩
            obtain ⟨g, cap', hv, hc0, hc1, hc2, hf2, hbg, hgl⟩ := HQ.out.at ht
            injection hv with hv1 hv2 hv3
            subst hv1
            obtain ⟨tp0, tp1, htx⟩ := HF.out i t ht
            have hb1' : (0 : Int) < b + 1 := by omega
            by_cases hmm : (t.page - 1) % (b + 1) = m
            · have hat := mine_at (b + 1) m ps i t ht hmm
              rw [← HN2.out] at hat
              have hqa : (qs.map said)[n]? = some (said t) := by rw [HS.out, List.getElem?_map, hat]; rfl
              rw [List.getElem?_map] at hqa
              obtain ⟨t', ht', hst⟩ := Option.map_eq_some_iff.1 hqa
              have hga : gs[n]? = some t' := (HGJ.out n (Nat.le_refl _)).trans ht'
              have hnq : n < qs.length := (List.getElem?_eq_some_iff.1 ht').1
              obtain ⟨g2, cap2', hv', d0, d1, d2, df, dg, dgl⟩ := HG.out.at hga
              injection hv' with hv1' hv2' hv3'
              subst hv1'
              have hsp : t'.page = t.page := congrArg Prod.fst hst
              have hsx : t'.x = t.x := congrArg Prod.snd hst
              rw [hsp] at d0
              rw [hsx, htx] at d2
              have hnl : (n : Int) < (qs.length : Int) := by omega
              have hlow := HG.out.low t' (List.mem_of_getElem? hga)
              have HST := Aside0.mk (And.intro hga (And.intro hsp hsx))
              have HT := Aside0.mk ht
              have hm1 : ((t.page - 1) % (b + 1) == m) = true := beq_iff_eq.mpr hmm
              have hm2 : ((t.page - 1) % (b + 1) != m) = false := by simp [hmm]
              have HMM := Aside0.mk hmm
              clear hmm hat hqa ht' hst hga hsp hsx ht hv2 hv3 hv2' hv3' htx
              go_wp2_with fail
              have hgd : decide (qs.length ≤ n) = false := by simp; omega
              have hgd2 : ¬ ((qs.length : Int) ≤ (n : Int)) := by omega
              go_quiet (fail)
              have HGP := Aside0.mk (HG.out.put HST.out.1 99)
              have HQP := Aside0.mk (HQ.out.apart HPR.out HPL.out ⟨t'.d, 0, none⟩ hlow (.int .i64 99))
              obtain ⟨g', cap'', hw, _, hq0, hq1, _, _, _⟩ := HQP.out.at HT.out
              injection hw with hw1 hw2 hw3
              injection hw1 with hw1
              injection hw1 with hw1 _ _
              subst hw1
              rw [(HF.out i t HT.out).2.2] at hq1
              have HN3 := Aside0.mk (show n + 1 = (mine (b + 1) m (ps.take (i + 1))).length by rw [mine_snoc _ _ _ _ _ HT.out, if_pos HMM.out, List.length_append, ← HN2.out]; rfl)
              have HW0 := Aside0.mk (show w.heap.size ≤ t'.d by have := HB.out.size; have := HBO.out; omega)
              rw [(HF.out i t HT.out).2.2] at hc2
              have hne1 : t'.d ≠ t.d := by have := HPL.out t (List.mem_of_getElem? HT.out); omega
              have hne2 : t'.d ≠ g := by have := HPR.out g rfl; omega
              clear hw2 hw3 hc0 d0 hm1 hm2 hgd hgd2
              go_wp2_with fail
              have HJ3 := Aside0.mk (fun j (hj : n + 1 ≤ j) => by rw [List.getElem?_set_ne (by omega)]; exact HGJ.out j (by omega) : ∀ j, n + 1 ≤ j → (gs.set n { t' with x := 99 })[j]? = qs[j]?)
              have HL3 := Aside0.mk (show (gs.set n { t' with x := 99 }).length = qs.length by rw [List.length_set]; exact HGL.out)
              go_roundg (gk - 1)
              case measure => have := HI.out; omega
              case rel => exact ⟨n + 1, i + 1, gs.set n { t' with x := 99 }, by simp, by simp, by simp; omega, ⟨by have := HI.out; omega⟩, HN3, ⟨⟨HGP.out.row, HGP.out.inner, HGP.out.low, HGP.out.nodup⟩⟩, ⟨⟨HQP.out.row, HQP.out.inner, HQP.out.low, HQP.out.nodup⟩⟩, HL3, HJ3, ⟨by repeat (first | exact HB.out | apply pw_below_drewN | apply below_drew1 | refine Below.setCell ?_ HW0.out _)⟩⟩
            · have HT := Aside0.mk ht
              have HN3 := Aside0.mk (show n = (mine (b + 1) m (ps.take (i + 1))).length by rw [mine_snoc _ _ _ _ _ ht, if_neg hmm]; exact HN2.out)
              have hm1 : ((t.page - 1) % (b + 1) == m) = false := beq_eq_false_iff_ne.mpr hmm
              have hm2 : ((t.page - 1) % (b + 1) != m) = true := by simp [hmm]
              clear ht hmm hv2 hv3 hc1 hc2 hf2 htx
              go_wp2_with fail
              go_roundg (gk - 1)
              case measure => have := HI.out; omega
              case rel => exact ⟨n, i + 1, gs, rfl, by simp, by simp; omega, ⟨by have := HI.out; omega⟩, HN3, HG, HQ, HGL, HGJ, HB⟩
          · have hie : i = ps.length := by have := HI.out; omega
            have hne : n = qs.length := by
              have h1 := HN2.out
              rw [hie, List.take_length] at h1
              have h2 := congrArg List.length HS.out
              simp at h2
              omega
            subst hne
            clear hie
            go_wp2_with fail
            go_ret
            exact ⟨by simp, HB.out⟩

end Go.Proofs.Ytfnahgmajdjepaa.WalkPartsOf
