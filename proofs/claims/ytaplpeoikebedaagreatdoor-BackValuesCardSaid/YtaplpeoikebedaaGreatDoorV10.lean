/- Joined texts: BlockB, DiskS. No condition but what each says. -/
import Derived.Test.YtaplpeoikebedaaGreatDoorV9
import Derived.Lib.SlBytesConst
import Derived.Test.YtaplpeoikebedaaGreatDoorV7
set_option maxHeartbeats 8000000
set_option maxRecDepth 100000
set_option linter.unusedVariables false
set_option linter.unusedSimpArgs false
namespace Go.Proofs.YtaplpeoikebedaaGreatDoor.BlockB
open Go.RowKit YtaplpeoikebedaaGreatDoorW.PrintWords YtaplpeoikebedaaGreatDoorW.PrintLast YtaplpeoikebedaaGreatDoorW.PrintMore
open See Mem Clone Go.Proofs.YtaplpeoikebedaaGreatDoor.Cell Page PageB PageR Disk RecD Rec RecC RecB Fill
attribute [local go_sem] max2_imax min2_imin max_two min_two
def recCells (l : List RecV) : List Value := l.flatMap recL
theorem recCells_at : ∀ (l : List RecV) (i : Nat) (r : RecV) (j : Nat), l[i]? = some r → j < 10 → (recCells l)[i * 10 + j]? = (recL r)[j]?
  | [], i, r, j, h, _ => by simp at h
  | s :: l, 0, r, j, h, hj => by
    simp at h; subst h
    unfold recCells
    rw [List.flatMap_cons, Nat.zero_mul, Nat.zero_add, List.getElem?_append_left (by simp [recL]; omega)]
  | s :: l, i + 1, r, j, h, hj => by
    have := recCells_at l i r j (by simpa using h) hj
    have e : recCells (s :: l) = recL s ++ recCells l := by simp [recCells, List.flatMap_cons]
    rw [e, List.getElem?_append_right (by simp [recL]; omega), show (i + 1) * 10 + j - (recL s).length = i * 10 + j from by simp [recL]; omega]
    exact this
theorem recCells_append (a b : List RecV) : recCells (a ++ b) = recCells a ++ recCells b := by unfold recCells; rw [List.flatMap_append]
def RecsR (w : World) (v : Value) (l : List RecV) : Prop := Rd w 46 10 v l.length (recCells l)
theorem RecsR.below {w w' : World} {v : Value} {l : List RecV} (h : RecsR w v l) (hb : Below w.heap.size w w') : RecsR w' v l := Rd.below h hb
theorem RecsR.at {w : World} {A : Option Addr} {n c : Nat} {l : List RecV} (h : RecsR w (.slice A n c) l) {i : Nat} {r : RecV} (hi : l[i]? = some r) :
    ∃ g off, A = some ⟨g, off, none⟩ ∧ w.cell? ⟨g, off + i * 10, none⟩ = some (.int .i64 r.kind) ∧ w.cell? ⟨g, off + i * 10 + 1, none⟩ = some (.int .i64 r.txn) ∧ w.cell? ⟨g, off + i * 10 + 2, none⟩ = some (.int .i64 r.page) ∧ w.cell? ⟨g, off + i * 10 + 3, none⟩ = some (.int .i64 r.prev) ∧ w.cell? ⟨g, off + i * 10 + 4, none⟩ = some (.int .i64 r.next) ∧
      w.cell? ⟨g, off + i * 10 + 5, none⟩ = some (.int .i64 r.key) ∧ w.cell? ⟨g, off + i * 10 + 6, none⟩ = some (.bool r.had) ∧ w.cell? ⟨g, off + i * 10 + 7, none⟩ = some (.bool r.has) ∧ w.cell? ⟨g, off + i * 10 + 8, none⟩ = some (.int .i64 r.old) ∧ w.cell? ⟨g, off + i * 10 + 9, none⟩ = some (.int .i64 r.new) := by
  have hlt := (List.getElem?_eq_some_iff.1 hi).1
  rcases h.2.2 with ⟨hv, h0⟩ | ⟨g, off, cap, cur, fz, hv, hh, hnc, hcm, hsz, htk⟩
  · omega
  · injection hv with h1 h2 h3
    subst h1
    have key : ∀ j u, j < 10 → (recL r)[j]? = some u → w.cell? ⟨g, off + i * 10 + j, none⟩ = some u := fun j u hj hu => by
      have e := recCells_at l i r j hi hj
      rw [hu, ← htk, List.getElem?_take, if_pos (by omega), List.getElem?_drop] at e
      simp only [World.cell?, hh]
      rw [show off + i * 10 + j = off + (i * 10 + j) from by omega]
      simpa using e
    exact ⟨g, off, rfl, key 0 _ (by omega) rfl, key 1 _ (by omega) rfl, key 2 _ (by omega) rfl, key 3 _ (by omega) rfl, key 4 _ (by omega) rfl, key 5 _ (by omega) rfl, key 6 _ (by omega) rfl, key 7 _ (by omega) rfl, key 8 _ (by omega) rfl, key 9 _ (by omega) rfl⟩
theorem join_calls (A : Option Addr) (n c : Nat) (bss : List (List Int)) (w : World) (hb : BSs w (.slice A n c) n bss) (hB : bss.flatten.length ≤ 90000) (hn : n ≤ 1000) :
    Calls Tryz.prog 191 #[.slice A n c] w fun e w' => ∃ v', e = .returned v' ∧ BS w' v' bss.flatten ∧ Below w.heap.size w w' := by
  have HC := Aside0.mk (concat_calls (.slice A n c) n bss w hb hB hn)
  clear hb hB
  go_enter Tryz.func191, Tryz.ntmps191
  go_wp2_with fail
  refine HC.out.mono ?_
  rintro e w1 ⟨v1, rfl, hv, hb⟩
  have HV := Aside0.mk hv
  have HB := Aside0.mk hb
  obtain ⟨A1, c1, rfl, _⟩ := Rd.form hv
  clear hv hb
  go_wp2_with fail
  go_ret
  exact ⟨.slice A1 bss.flatten.length c1, by simp, HV.out, HB.out⟩
theorem bs_magic {W : World} {b : Nat} {fz : Nat × Nat} (h : W.heap[b]? = some (.cells #[.int .u8 80, .int .u8 72, .int .u8 88, .int .u8 66] 5 fz)) : BS W (.slice (some ⟨b, 0, none⟩) 4 4) [80, 72, 88, 66] :=
  ⟨by simp, by simp, .inr ⟨b, 0, 4, _, _, rfl, h, by simp, by decide, by simp, by simp⟩⟩
theorem bss_two {W : World} {b : Nat} {u v : Value} {x y : List Int} (h : W.heap[b]? = some (.cells #[u, v] 93 (0, 0))) (hx : BS W u x) (hy : BS W v y) : BSs W (.slice (some ⟨b, 0, none⟩) 2 2) 2 [x, y] := by
  refine ⟨rfl, [u, v], ⟨by simp, by simp, .inr ⟨b, 0, 2, _, _, rfl, h, by simp, by decide, by simp, by simp⟩⟩, fun i b' hi => ?_⟩
  match i, hi with
  | 0, hi => simp at hi; subst hi; exact ⟨u, rfl, hx⟩
  | 1, hi => simp at hi; subst hi; exact ⟨v, rfl, hy⟩
theorem magic_fill : fillL [80, 72, 88, 66] (16 : Int).toNat = [80, 72, 88, 66] ++ List.replicate 12 0 := rfl
theorem magic_len : ([80, 72, 88, 66] ++ List.replicate 12 (0 : Int)).length = 16 := rfl
theorem head4_len (e : Int) : (putL ([80, 72, 88, 66] ++ List.replicate 12 0) 4 4 e).length = 16 := by rw [putL_length _ _ _ _ (by rw [magic_len]; omega), magic_len]
def blockV (epoch : Int) (l : List RecV) : List Int := if (blockE epoch l).isNone then blockBytes epoch l else []
theorem blockE_bad {e : Int} {l : List RecV} (h : blockOk e l = false) : blockE e l = some 1 := by unfold blockE; rw [h]; rfl
theorem blockE_rec {e : Int} {l : List RecV} {i : Nat} {r : RecV} (hi : l[i]? = some r) (h : recOk r = false) : blockE e l = some 1 := by
  unfold blockE
  rw [show l.all recOk = false from by
    rw [List.all_eq_false]
    exact ⟨r, List.mem_of_getElem? hi, by simp [h]⟩]
  simp
theorem blockE_good {e : Int} {l : List RecV} (h : blockOk e l = true) (hr : ∀ r ∈ l, recOk r = true) : blockE e l = none := by
  unfold blockE
  rw [h, List.all_eq_true.2 hr]; rfl
def blockN (epoch : Int) (l : List RecV) (i : Nat) : List Int := blockHead epoch l.length ++ blockBody (l.take i)
theorem blockN_len (e : Int) (l : List RecV) (i : Nat) : (blockN e l i).length ≤ 16 + 40 * l.length := by
  unfold blockN
  rw [List.length_append, blockHead_len, blockBody_len, List.length_take]; omega
theorem blockN_succ (e : Int) (l : List RecV) (i : Nat) (r : RecV) (h : l[i]? = some r) : blockN e l (i + 1) = blockN e l i ++ recBytes r := by
  obtain ⟨hl, he⟩ := List.getElem?_eq_some_iff.1 h
  unfold blockN blockBody
  rw [List.take_succ_eq_append_getElem hl, List.flatMap_append, he, List.append_assoc]
  simp
theorem bbytes_calls (a : Nat → Addr) (ep : Int) (v : Value) (l : List RecV) (w : World) (hs : Sents w a) (hl : RecsR w v l) :
    Calls Tryz.prog 133 #[.int .i64 ep, v] w fun e w' => ∃ v, e = .returned (.tuple #[v, errv a (blockE ep l)]) ∧ BS w' v (blockV ep l) ∧ Below w.heap.size w w' := by
  have HS := Aside0.mk hs
  have hg1 : w.cell? ⟨6, 0, none⟩ = some (.iface 333 (.pointer (some (a 1)))) := hs.cell 1 (by decide)
  obtain ⟨A, c, rfl, _⟩ := Rd.form hl
  obtain ⟨n, hn⟩ : ∃ n, l.length = n := ⟨_, rfl⟩
  have HN := Aside0.mk hn
  have hn6 : n ≤ 1000000 := by rw [← hn]; exact hl.2.1
  rw [hn] at hl ⊢
  have HL := Aside0.mk hl
  clear hs hl hn
  rcases (show ep < 1 ∨ (1 ≤ ep ∧ 1073741824 < ep) ∨ (1 ≤ ep ∧ ep ≤ 1073741824 ∧ (n : Int) < 1) ∨ (1 ≤ ep ∧ ep ≤ 1073741824 ∧ 1 ≤ (n : Int) ∧ 6 < (n : Int)) ∨ (1 ≤ ep ∧ ep ≤ 1073741824 ∧ 1 ≤ (n : Int) ∧ (n : Int) ≤ 6) by omega) with h | ⟨h1, h2⟩ | ⟨h1, h2, h3⟩ | ⟨h1, h2, h3, h4⟩ | ⟨h1, h2, h3, h4⟩
  · have HE := Aside0.mk (blockE_bad (e := ep) (l := l) (by unfold blockOk inB; rw [HN.out]; simp; omega))
    have q1 : decide (ep < 1) = true := decide_eq_true h
    go_enter Tryz.func133, Tryz.ntmps133
    go_wp2_with fail
    go_region
    all_goals
      go_wp2_with fail
      exact bodyPost_ret (v := .tuple #[.slice none 0 0, .iface 333 (.pointer (some (a 1)))]) (by simp [results, Tryz.results133, go_sem]) rfl ⟨_, by rw [HE.out]; rfl, by unfold blockV; rw [HE.out]; exact BS.nil _, by repeat (first | exact Below.refl _ _ | apply pw_below_drewN | apply below_drew1)⟩
  · have HE := Aside0.mk (blockE_bad (e := ep) (l := l) (by unfold blockOk inB; rw [HN.out]; simp; omega))
    have q1 : decide (ep < 1) = false := decide_eq_false (by omega)
    have q2 : decide (ep > 1073741824) = true := decide_eq_true h2
    go_enter Tryz.func133, Tryz.ntmps133
    go_wp2_with fail
    go_region
    all_goals
      go_wp2_with fail
      exact bodyPost_ret (v := .tuple #[.slice none 0 0, .iface 333 (.pointer (some (a 1)))]) (by simp [results, Tryz.results133, go_sem]) rfl ⟨_, by rw [HE.out]; rfl, by unfold blockV; rw [HE.out]; exact BS.nil _, by repeat (first | exact Below.refl _ _ | apply pw_below_drewN | apply below_drew1)⟩
  · have HE := Aside0.mk (blockE_bad (e := ep) (l := l) (by unfold blockOk inB; rw [HN.out]; simp; omega))
    have q1 : decide (ep < 1) = false := decide_eq_false (by omega)
    have q2 : decide (ep > 1073741824) = false := decide_eq_false (by omega)
    have q3 : n = 0 := by omega
    subst q3
    go_enter Tryz.func133, Tryz.ntmps133
    go_wp2_with fail
    go_region
    all_goals
      go_wp2_with fail
      exact bodyPost_ret (v := .tuple #[.slice none 0 0, .iface 333 (.pointer (some (a 1)))]) (by simp [results, Tryz.results133, go_sem]) rfl ⟨_, by rw [HE.out]; rfl, by unfold blockV; rw [HE.out]; exact BS.nil _, by repeat (first | exact Below.refl _ _ | apply pw_below_drewN | apply below_drew1)⟩
  · have HE := Aside0.mk (blockE_bad (e := ep) (l := l) (by unfold blockOk inB; rw [HN.out]; simp; omega))
    have q1 : decide (ep < 1) = false := decide_eq_false (by omega)
    have q2 : decide (ep > 1073741824) = false := decide_eq_false (by omega)
    go_enter Tryz.func133, Tryz.ntmps133
    go_wp2_with fail
    go_region
    all_goals
      go_wp2_with fail
      exact bodyPost_ret (v := .tuple #[.slice none 0 0, .iface 333 (.pointer (some (a 1)))]) (by simp [results, Tryz.results133, go_sem]) rfl ⟨_, by rw [HE.out]; rfl, by unfold blockV; rw [HE.out]; exact BS.nil _, by repeat (first | exact Below.refl _ _ | apply pw_below_drewN | apply below_drew1)⟩
  · have HOK := Aside0.mk (show blockOk ep l = true by unfold blockOk inB; rw [HN.out]; simp; omega)
    have q1 : decide (ep < 1) = false := decide_eq_false (by omega)
    have q2 : decide (ep > 1073741824) = false := decide_eq_false (by omega)
    have q3 : decide ((n : Int) < 1) = false := decide_eq_false (by omega)
    have q4 : decide (6 < (n : Int)) = false := decide_eq_false (by omega)
    have q5 : decide ((n : Int) > 6) = false := decide_eq_false (by omega)
    have hcv := fun (w : World) (C : Array Value) (n c : Nat) => Lib.run_convert_bytes_const (P := Tryz.prog) w 93 5 C n c Tryz.underlying93 Tryz.underlying5
    clear hg1
    go_enter Tryz.func133, Tryz.ntmps133
    go_wp2_with fail
    have hbm := bs_magic (W := w.alloc (.cells #[.int .u8 80, .int .u8 72, .int .u8 88, .int .u8 66] 5 (4, 5))) (b := w.heap.size) (heap_alloc_new w _)
    refine (fill_calls _ [80, 72, 88, 66] 16 _ hbm (by omega) (by omega)).mono ?_
    rintro e w1 ⟨v1, rfl, hv, hb⟩
    rw [magic_fill] at hv
    obtain ⟨ml, hml⟩ : ∃ ml : List Int, [80, 72, 88, 66] ++ List.replicate 12 0 = ml := ⟨_, rfl⟩
    have hl0 : ml.length = 16 := by rw [← hml]; exact magic_len
    have HML := Aside0.mk hml
    rw [hml] at hv
    have HV := Aside0.mk hv
    have HB := Aside0.mk (below_step (below_alloc (Below.refl w.heap.size w) (.cells #[.int .u8 80, .int .u8 72, .int .u8 88, .int .u8 66] 5 (4, 5))) hb)
    have HL0 := Aside0.mk hl0
    clear hv hb hbm hcv hml hl0
    go_wp2_with fail
    refine (put_calls _ ml 4 4 ep (by omega) (by omega) (by omega) (by rw [HL0.out]; omega) (by omega) _ HV.out).mono ?_
    rintro e w2 ⟨v2, rfl, hv, hb⟩
    replace HV := Aside0.mk hv
    replace HB := Aside0.mk (below_step HB.out hb)
    clear hv hb
    go_wp2_with fail
    refine (put_calls _ _ 8 2 (n : Int) (by omega) (by omega) (by omega) (by rw [← HML.out]; show _ ≤ (((putL _ 4 4 _).length : Nat) : Int); rw [head4_len]; omega) (by omega) _ HV.out).mono ?_
    rintro e w3 ⟨v3, rfl, hv, hb⟩
    replace HV := Aside0.mk (show BS w3 v3 (blockN ep l 0) by
      have := hv
      rw [← HML.out] at this
      unfold blockN blockHead blockBody
      simp only [List.take_zero, List.flatMap_nil, List.append_nil]
      rw [HN.out, PageL.u64_id (n := ep) (by omega) (by omega), PageL.u64_id (n := (n : Int)) (by omega) (by omega)]
      exact this)
    replace HB := Aside0.mk (below_step HB.out hb)
    clear hv hb
    go_wp2_with fail
    go_loopg [6, 42] (n + 1) (fun kq v6 v42 w' => ∃ (i : Int) (v : Value), v6 = v ∧ v42 = .int .i64 i ∧ Aside0 (0 ≤ i ∧ i ≤ n ∧ (kq : Int) = n + 1 - i) ∧ Aside0 (∀ (j : Nat) (r : RecV), (j : Int) < i → l[j]? = some r → recOk r = true) ∧ Aside0 (BS w' v (blockN ep l i.toNat)) ∧ Aside0 (Below w.heap.size w w'))
    case atStart => exact ⟨0, _, rfl, rfl, ⟨by omega, by omega, by omega⟩, ⟨fun j r h => by omega⟩, HV, HB⟩
    case round =>
      clear HV HB
      obtain ⟨i, v, rfl, rfl, HI, HJ, HV, HB⟩ := hrel
      have hi0 : 0 ≤ i := HI.out.1
      by_cases hlt : i < n
      · obtain ⟨r, hr⟩ : ∃ r, l[i.toNat]? = some r := ⟨_, List.getElem?_eq_getElem (by have := HN.out; omega)⟩
        obtain ⟨g, off, rfl, d0, d1, d2, d3, d4, d5, d6, d7, d8, d9⟩ := (HL.out.below HB.out).at hr
        have HRI := Aside0.mk hr
        obtain ⟨k, t, pg, pv, nx, ky, hd, hh, ol, nw⟩ := r
        simp only at d0 d1 d2 d3 d4 d5 d6 d7 d8 d9
        clear hr
        go_wp2_with fail
        refine (rbytes_calls a ⟨k, t, pg, pv, nx, ky, hd, hh, ol, nw⟩ _ (by exact HS.out.below (by repeat (first | exact HB.out | apply below_drew1 | apply below_alloc)))).mono ?_
        rintro e w4 ⟨v4, rfl, hv4, hb4⟩
        have HV4 := Aside0.mk hv4
        replace HV := Aside0.mk (BS.below HV.out (show Below wr.heap.size wr w4 from (by repeat (first | exact Below.refl _ _ | apply below_drew1 | apply below_alloc) : Below wr.heap.size wr (wr.alloc _)).trans (hb4.mono (by simp))))
        replace HB := Aside0.mk (below_step (by repeat (first | exact HB.out | apply below_drew1 | apply below_alloc)) hb4)
        clear hv4 hb4 d0 d1 d2 d3 d4 d5 d6 d7 d8 d9
        cases hok : recOk ⟨k, t, pg, pv, nx, ky, hd, hh, ol, nw⟩ with
        | false =>
          have hce : errv a (recE ⟨k, t, pg, pv, nx, ky, hd, hh, ol, nw⟩) = .iface 333 (.pointer (some (a 1))) := by unfold recE; rw [hok]; rfl
          have HE := Aside0.mk (blockE_rec (e := ep) HRI.out hok)
          rw [hce]
          clear hce hok
          go_wp2_with fail
          exact bodyPost_ret (v := .tuple #[.slice none 0 0, .iface 333 (.pointer (some (a 1)))]) (by simp [results, Tryz.results133, go_sem]) rfl ⟨_, by rw [HE.out]; rfl, by unfold blockV; rw [HE.out]; exact BS.nil _, HB.out⟩
        | true =>
          have hce : errv a (recE ⟨k, t, pg, pv, nx, ky, hd, hh, ol, nw⟩) = .nilIface := by unfold recE; rw [hok]; rfl
          have hbv : recBV ⟨k, t, pg, pv, nx, ky, hd, hh, ol, nw⟩ = recBytes ⟨k, t, pg, pv, nx, ky, hd, hh, ol, nw⟩ := by unfold recBV; rw [hok]; rfl
          have hv4 := HV4.out
          rw [hbv] at hv4
          replace HV4 := Aside0.mk hv4
          have HOKR := Aside0.mk hok
          rw [hce]
          clear hce hok hbv hv4
          obtain ⟨A6, c6, rfl, _⟩ := Rd.form HV.out
          obtain ⟨A4, c4, rfl, _⟩ := Rd.form HV4.out
          go_wp2_with fail
          refine (join_calls (some ⟨w4.heap.size, 0, none⟩) 2 2 [blockN ep l i.toNat, recBytes ⟨k, t, pg, pv, nx, ky, hd, hh, ol, nw⟩] _ (bss_two (b := w4.heap.size) (heap_alloc_new w4 _) (BS.below HV.out (below_alloc (Below.refl _ _) _)) (BS.below HV4.out (below_alloc (Below.refl _ _) _))) (by
            have := blockN_len ep l i.toNat
            have := HN.out
            simp [recBytes_len]; omega) (by omega)).mono ?_
          rintro e w5 ⟨v5, rfl, hv5, hb5⟩
          have HV5 := Aside0.mk (show BS w5 v5 (blockN ep l (i.toNat + 1)) by rw [blockN_succ _ _ _ _ HRI.out]; simpa using hv5)
          have HB5 := Aside0.mk (below_step (below_alloc HB.out _) hb5)
          clear hv5 hb5
          go_wp2_with fail
          go_roundg (gk - 1)
          case measure => have := HI.out; omega
          case rel =>
            refine ⟨i + 1, _, rfl, rfl, ⟨by omega, by omega, by have := HI.out; omega⟩, ⟨fun j r hj hr => ?_⟩, ⟨by rw [show (i + 1).toNat = i.toNat + 1 from by omega]; exact HV5.out⟩, HB5⟩
            rcases (show (j : Int) < i ∨ j = i.toNat by omega) with h | h
            · exact HJ.out j r h hr
            · subst h
              rw [HRI.out] at hr
              obtain rfl := Option.some.inj hr
              exact HOKR.out
      · have HE := Aside0.mk (show blockE ep l = none from blockE_good HOK.out fun r hr => by
          obtain ⟨j, hj, hjr⟩ := List.getElem_of_mem hr
          exact HJ.out j r (by have := HI.out; have := HN.out; omega) (by rw [List.getElem?_eq_getElem hj, hjr]))
        have HV2 := Aside0.mk (show BS wr u6 (blockHead ep l.length ++ blockBody l) by
          have := HV.out
          unfold blockN at this
          rw [List.take_of_length_le (by have := HI.out; have := HN.out; omega)] at this
          exact this)
        go_wp2_with fail
        refine (fill_calls _ _ 256 _ HV2.out (by omega) (by omega)).mono ?_
        rintro e w5 ⟨v5, rfl, hv5, hb5⟩
        have HV5 := Aside0.mk (show BS w5 v5 (blockBytes ep l) from hv5)
        have HB5 := Aside0.mk (below_step HB.out hb5)
        clear hv5 hb5
        go_wp2_with fail
        exact bodyPost_ret (v := .tuple #[v5, .nilIface]) (by simp [results, Tryz.results133, go_sem]) rfl ⟨v5, by rw [HE.out]; rfl, by unfold blockV; rw [HE.out]; exact HV5.out, HB5.out⟩
end Go.Proofs.YtaplpeoikebedaaGreatDoor.BlockB
namespace Go.Proofs.YtaplpeoikebedaaGreatDoor.DiskS
open Go.RowKit YtaplpeoikebedaaGreatDoorW.PrintWords YtaplpeoikebedaaGreatDoorW.PrintLast YtaplpeoikebedaaGreatDoorW.PrintMore
open See Mem Clone Go.Proofs.YtaplpeoikebedaaGreatDoor.Cell Page PageB PageR Disk DiskN DiskW RecD
attribute [local go_sem] max2_imax min2_imin max_two min_two
theorem secCells_set2 (rs : List (Value × Value)) (i : Nat) (x y : Value) (h : i < rs.length) : ((secCells rs).set (i * 2) x).set (i * 2 + 1) y = secCells (rs.set i (x, y)) := by
  induction rs generalizing i with
  | nil => simp at h
  | cons s rs ih =>
    have e : secCells (s :: rs) = s.1 :: s.2 :: secCells rs := by simp [secCells, List.flatMap_cons]
    cases i with
    | zero => simp [secCells, List.flatMap_cons]
    | succ i =>
      rw [e, show (i + 1) * 2 = i * 2 + 1 + 1 from by omega, List.set_cons_succ, List.set_cons_succ, List.set_cons_succ, List.set_cons_succ, ih i (by simpa using h), List.set_cons_succ]
      simp [secCells, List.flatMap_cons]
theorem dsk_fast {M : Nat → Prop} {w : World} {p g cap : Nat} {rs : List (Value × Value)} {d : Dsk} (h : DskAt M w p g cap rs d) {i : Nat} {r : Value × Value} {s : Sec} {x : Value} (hr : rs[i]? = some r) (hs : d.l[i]? = some s) (hx : BS w x s.last) :
    DskAt M ((w.setCell ⟨g, i * 2, none⟩ x).setCell ⟨g, i * 2 + 1, none⟩ (.slice none 0 0)) p g cap (rs.set i (x, .slice none 0 0)) { d with l := d.l.set i (fastS s) } := by
  obtain ⟨cg, hcg⟩ : ∃ c, w.heap[g]? = some (.cells c 175 (0, 0)) := (ow_block h.row rfl).2
  have hset : ∀ (k : Nat) (c : Array Value) (e : Nat) (fz : Nat × Nat), w.heap[k]? = some (.cells c e fz) → e ≠ 175 → ((w.setCell ⟨g, i * 2, none⟩ x).setCell ⟨g, i * 2 + 1, none⟩ (.slice none 0 0)).heap[k]? = w.heap[k]? := fun k c e fz hk he => by
    have hkg : k ≠ g := fun e2 => by
      subst e2
      rw [hcg] at hk
      injection hk with hk; injection hk with _ hk
      exact he hk.symm
    rw [Below.heap_setCell _ _ _ _ (by exact hkg), Below.heap_setCell _ _ _ _ (by exact hkg)]
  have hbs : ∀ x' b, BS w x' b → BS ((w.setCell ⟨g, i * 2, none⟩ x).setCell ⟨g, i * 2 + 1, none⟩ (.slice none 0 0)) x' b := fun x' b hx' => Rd.move hx' fun k hk => by
    obtain ⟨c, fz, hc⟩ := Rd.block hx' hk
    exact hset k _ _ _ hc (by decide)
  have hlr : i < rs.length := (List.getElem?_eq_some_iff.1 hr).1
  have hll : i < d.l.length := (List.getElem?_eq_some_iff.1 hs).1
  refine ⟨?_, ?_, by simp [h.len], h.mp, h.mg, fun j q s' hj hs' => ?_, fun j1 j2 q1 q2 k h1 h2 h3 h4 => ?_, fun s' hs' => ?_, by simpa using h.few⟩
  · rw [(hset p _ _ _ h.box (by decide)).trans h.box]
    simp [dskCells]
  · have o1 := (h.row.stored (i * 2) x).1
    have o2 := (o1.stored (i * 2 + 1) (.slice none 0 0)).1
    rw [secCells_set2 rs i x _ hlr] at o2
    simpa using o2
  · by_cases hji : j = i
    · subst hji
      rw [List.getElem?_set, if_pos rfl, if_pos hlr] at hj
      injection hj with hj
      subst hj
      rw [List.getElem?_set, if_pos rfl, if_pos hll] at hs'
      injection hs' with hs'
      subst hs'
      exact ⟨hbs _ _ hx, ⟨[], World.ownsRow_nil _ _ _ _, fun i b hb => by simp [fastS] at hb⟩, fun k hk => by cases hk⟩
    · rw [List.getElem?_set, if_neg (fun e => hji e.symm)] at hj hs'
      obtain ⟨h1, ⟨vs, h2, h3⟩, h4⟩ := h.secs j q s' hj hs'
      refine ⟨hbs _ _ h1, ⟨vs, ow_move h2 fun k hk => by obtain ⟨_, c, hc⟩ := ow_block h2 hk; exact hset k _ _ _ hc (by decide), fun j2 b' hb' => ?_⟩, h4⟩
      obtain ⟨y, hy, hy2⟩ := h3 j2 b' hb'
      exact ⟨y, hy, hbs _ _ hy2⟩
  · rw [List.getElem?_set] at h1 h2
    by_cases e1 : i = j1
    · rw [if_pos e1, if_pos hlr] at h1
      injection h1 with h1; subst h1
      cases h3
    · rw [if_neg e1] at h1
      by_cases e2 : i = j2
      · rw [if_pos e2, if_pos hlr] at h2
        injection h2 with h2; subst h2
        cases h4
      · rw [if_neg e2] at h2
        exact h.apart j1 j2 q1 q2 k h1 h2 h3 h4
  · rcases List.mem_or_eq_of_mem_set hs' with h' | h'
    · exact h.ok s' h'
    · subst h'
      exact ⟨Sec.last_ok (h.ok s (List.mem_of_getElem? hs)), fun b hb => by simp [fastS] at hb⟩
def syncN (d : Dsk) (i : Nat) : Dsk := { d with l := (d.l.take i).map fastS ++ d.l.drop i }
theorem syncN_zero (d : Dsk) : syncN d 0 = d := by unfold syncN; simp
theorem syncN_all (d : Dsk) : syncN d d.l.length = { d with l := d.l.map fastS } := by unfold syncN; simp
theorem syncN_at (d : Dsk) (i : Nat) (s : Sec) (h : d.l[i]? = some s) : (syncN d i).l[i]? = some s := by
  have hl := (List.getElem?_eq_some_iff.1 h).1
  unfold syncN
  simp only
  rw [List.getElem?_append_right (by rw [List.length_map, List.length_take]; omega), List.length_map, List.length_take, List.getElem?_drop, Nat.min_eq_left (by omega)]
  simpa using h
theorem syncN_succ (d : Dsk) (i : Nat) (s : Sec) (h : d.l[i]? = some s) : { syncN d i with l := (syncN d i).l.set i (fastS s) } = syncN d (i + 1) := by
  obtain ⟨hl, he⟩ := List.getElem?_eq_some_iff.1 h
  unfold syncN
  simp only
  congr 1
  rw [List.set_append_right _ _ (by rw [List.length_map, List.length_take]; omega), List.length_map, List.length_take, Nat.min_eq_left (by omega), Nat.sub_self, List.drop_eq_getElem_cons hl, List.set_cons_zero, List.take_succ_eq_append_getElem hl, List.map_append, he]
  simp
theorem syncN_skip (d : Dsk) (i : Nat) (s : Sec) (h : d.l[i]? = some s) (hs : s.loose = []) : syncN d i = syncN d (i + 1) := by
  obtain ⟨hl, he⟩ := List.getElem?_eq_some_iff.1 h
  unfold syncN
  congr 1
  have hf : fastS s = s := by
    obtain ⟨f, lo⟩ := s
    simp only at hs
    subst hs
    rfl
  rw [List.drop_eq_getElem_cons hl, List.take_succ_eq_append_getElem hl, List.map_append, he]
  simp [hf]
theorem syncN_len (d : Dsk) (i : Nat) : (syncN d i).l.length = d.l.length := by
  unfold syncN; simp; omega
def SyncPost (a : Nat → Addr) (M : Nat → Prop) (p : Nat) (d : Dsk) (w : World) (e : Ending) (w' : World) : Prop :=
  e = .returned (errv a (syncE d)) ∧ DskM M w' p (syncD d) ∧ Frm dTurn M w w'
theorem spendD_l (d : Dsk) : (spendD d).l = d.l := by unfold spendD; split <;> (try split) <;> rfl
theorem sync_disk (a : Nat → Addr) (M : Nat → Prop) (p : Nat) (d : Dsk) (w : World) (hs : Sents w a) (hO : Out M a) (hd : DskM M w p d) (hf : FuseOk d) (hfew : ∀ s ∈ d.l, s.loose.length ≤ 100000) :
    Calls Tryz.prog 135 #[.pointer (some ⟨p, 0, none⟩)] w (SyncPost a M p d w) := by
  have hDM := Aside0.mk hd
  obtain ⟨g, cap, rs, hd⟩ := hd
  obtain ⟨hc0, hc1, hc2⟩ := hd.cells
  have HD := Aside0.mk hd
  have HS := Aside0.mk hs
  have HO := Aside0.mk hO
  have HFU := Aside0.mk hf
  have HFEW := Aside0.mk hfew
  have hg0 : w.cell? ⟨8, 0, none⟩ = some (.iface 333 (.pointer (some (a 0)))) := hs.cell 0 (by decide)
  obtain ⟨off, hoff⟩ : ∃ o, d.off = o := ⟨_, rfl⟩
  have HOFF := Aside0.mk hoff
  rw [hoff] at hc1
  clear hd hs hO hf hoff hfew
  cases off with
  | true =>
    have HR := Aside0.mk (show syncE d = some 0 ∧ syncD d = d by unfold syncE syncD; simp [HOFF.out])
    go_enter Tryz.func135, Tryz.ntmps135
    go_wp2_with fail
    go_ret
    exact ⟨by rw [HR.out.1]; rfl, by rw [HR.out.2]; exact hDM.out, Frm.refl _ _ _⟩
  | false =>
    go_enter Tryz.func135, Tryz.ntmps135
    go_wp2_with fail
    refine (spend_disk M p g cap rs d _ HD.out HFU.out.1 HFU.out.2).mono ?_
    rintro e w1 ⟨rfl, hd1, hf1⟩
    have HD1 := Aside0.mk hd1
    have HF1 := Aside0.mk hf1
    cases hsp : spendB d with
    | false =>
      have hg1 : w1.cell? ⟨8, 0, none⟩ = some (.iface 333 (.pointer (some (a 0)))) := (sents_frm HS.out hf1 HO.out).cell 0 (by decide)
      have HR := Aside0.mk (show syncE d = some 0 ∧ syncD d = spendD d by unfold syncE syncD; simp [HOFF.out, hsp])
      clear hd1 hf1 hsp hc0 hc1 hc2
      go_wp2_with fail
      go_ret
      exact ⟨by rw [HR.out.1]; rfl, by rw [HR.out.2]; exact ⟨g, cap, rs, HD1.out⟩, HF1.out⟩
    | true =>
      have HR := Aside0.mk (show syncE d = none ∧ syncD d = { spendD d with l := (spendD d).l.map fastS } by unfold syncE syncD; simp [HOFF.out, hsp, spendD_l])
      obtain ⟨hc10, hc11, hc12⟩ := hd1.cells
      obtain ⟨d1, hd1e⟩ : ∃ d1, spendD d = d1 := ⟨_, rfl⟩
      have hfew1 : ∀ s ∈ d1.l, s.loose.length ≤ 100000 := by rw [← hd1e, spendD_l]; exact HFEW.out
      rw [hd1e] at HD1 HR hc10
      replace HFEW := Aside0.mk hfew1
      obtain ⟨n, hn⟩ : ∃ n, d1.l.length = n := ⟨_, rfl⟩
      have HN := Aside0.mk hn
      have hn2 : n ≤ 200 := by rw [← hn]; exact HD1.out.few
      rw [hn] at hc10
      clear hd1 hf1 hsp hc0 hc1 hc2 hg0 hc11 hc12 hd1e hfew1 hn
      go_wp2_with fail
      go_loopg [21] (n + 1) (fun kq v21 w' => ∃ (i : Int) (rs' : List (Value × Value)), v21 = .int .i64 i ∧ Aside0 (0 ≤ i ∧ i ≤ n ∧ (kq : Int) = n + 1 - i) ∧ Aside0 (DskAt M w' p g cap rs' (syncN d1 i.toNat)) ∧ Aside0 (Frm dTurn M w w'))
      case atStart => exact ⟨0, _, rfl, ⟨by omega, by omega, by omega⟩, ⟨by rw [show (0 : Int).toNat = 0 from rfl, syncN_zero]; exact HD1.out⟩, HF1⟩
      case round =>
        obtain ⟨i, rs', rfl, HI, HDW, HFW⟩ := hrel
        have hi0 : 0 ≤ i := HI.out.1
        by_cases hlt : i < n
        · obtain ⟨s, hs⟩ : ∃ s, d1.l[i.toNat]? = some s := ⟨_, List.getElem?_eq_getElem (by have := HN.out; omega)⟩
          have hs1 := syncN_at d1 i.toNat s hs
          obtain ⟨r, hr⟩ : ∃ r, rs'[i.toNat]? = some r := ⟨_, List.getElem?_eq_getElem (by have := HDW.out.len; rw [syncN_len] at this; have := HN.out; omega)⟩
          obtain ⟨hcb, _, _⟩ := HDW.out.cells
          rw [syncN_len, HN.out] at hcb
          obtain ⟨fv, lv⟩ := r
          obtain ⟨hfast, ⟨vs, hown, hls⟩, hlow⟩ := HDW.out.secs _ _ s hr hs1
          obtain ⟨hd0, hd1⟩ := HDW.out.sec hr
          simp only at hd0 hd1 hown hfast
          obtain ⟨m, hm⟩ : ∃ m, s.loose.length = m := ⟨_, rfl⟩
          have hm5 : m ≤ 100000 := by rw [← hm]; exact HFEW.out s (List.mem_of_getElem? hs)
          obtain ⟨A', c', rfl, hA'⟩ := ow_slice hown
          rw [hm] at hd1 hown hA'
          have HSS := Aside0.mk (And.intro hs (And.intro hr hs1))
          have HOW := Aside0.mk hown
          have HLS := Aside0.mk hls
          have HMM := Aside0.mk hm
          have hz0 : wr.frozen? ⟨g, i.toNat * 2, none⟩ = false := HDW.out.row.frozenAt _
          have hz1 : wr.frozen? ⟨g, i.toNat * 2 + 1, none⟩ = false := HDW.out.row.frozenAt _
          clear hs hs1 hr hfast hown hls hlow hm
          by_cases hm0 : m = 0
          · have HSK := Aside0.mk (syncN_skip d1 i.toNat s HSS.out.1 (List.eq_nil_of_length_eq_zero (by rw [HMM.out]; exact hm0)))
            subst hm0
            clear hA' hd0
            go_wp2_with fail
            go_roundg (gk - 1)
            case measure => have := HI.out; omega
            case rel => exact ⟨i + 1, rs', rfl, ⟨by omega, by omega, by have := HI.out; omega⟩, ⟨by rw [show (i + 1).toNat = i.toNat + 1 from by omega, ← HSK.out]; exact HDW.out⟩, HFW⟩
          · have hm1 : 0 < m := by omega
            obtain ⟨lg, rfl⟩ : ∃ lg, A' = some ⟨lg, 0, none⟩ := by
              obtain ⟨g', c2, he, _⟩ := HOW.out.form hm1
              injection he with he1
              exact ⟨g', he1⟩
            obtain ⟨b, hb⟩ : ∃ b, s.loose[m - 1]? = some b := ⟨_, List.getElem?_eq_getElem (by have := HMM.out; omega)⟩
            obtain ⟨x, hx, hbx⟩ := HLS.out _ b hb
            have HL := Aside0.mk (show s.last = b by unfold Sec.last; rw [List.getLast?_eq_getElem?, HMM.out, hb]; rfl)
            have HBX := Aside0.mk hbx
            have hcx : wr.cell? ⟨lg, m - 1, none⟩ = some x := by rw [HOW.out.cellAt _ (by omega)]; exact hx
            obtain ⟨xA, xc, hxv, _⟩ := Rd.form hbx
            have hgt : decide ((m : Int) > 0) = true := decide_eq_true (by omega)
            obtain ⟨mm, hmm⟩ : ∃ mm : Int, (m : Int) = mm := ⟨_, rfl⟩
            have h1m : 1 ≤ mm := by omega
            have hm6 : mm ≤ 100000 := by omega
            have htn : (mm - 1).toNat = m - 1 := by omega
            have htn2 : mm.toNat - 1 = m - 1 := by omega
            have hnl : mm - 1 < mm := by omega
            have h0m : 0 < mm := by omega
            have hnm : ¬ mm ≤ 0 := by omega
            rw [hmm] at hgt
            clear hb hx hbx hA'
            subst hxv
            go_wp2_with fail
            go_roundg (gk - 1)
            case measure => have := HI.out; omega
            case rel =>
              obtain ⟨s1, s2, s3⟩ := HSS.out
              refine ⟨i + 1, rs'.set i.toNat (.slice xA b.length xc, .slice none 0 0), rfl, ⟨by omega, by omega, by have := HI.out; omega⟩, ⟨?_⟩, ⟨?_⟩⟩
              · have h := dsk_fast HDW.out s2 s3 (by rw [HL.out]; exact HBX.out)
                rw [syncN_succ d1 i.toNat s s1] at h
                rw [show (i + 1).toNat = i.toNat + 1 from by omega]
                exact h
              · obtain ⟨_, cg, hcg⟩ := ow_block HDW.out.row rfl
                have hg : ∀ (W : World), Frm dTurn M w W → g < w.heap.size → tag w g ∈ dTurn := fun W hW hlt => by
                  by_cases hk : w.heap[g]? = wr.heap[g]?
                  · rw [tag_eq hk.symm |>.symm, tag_of hcg]; decide
                  · exact Classical.byContradiction fun hn => hk (HFW.out.block g hlt (fun _ => hn)).symm
                exact (HFW.out.set (fun hlt => ⟨HDW.out.mg, hg _ HFW.out hlt⟩) _).set (fun hlt => ⟨HDW.out.mg, hg _ HFW.out hlt⟩) _
        · have HALL := Aside0.mk (show syncN d1 i.toNat = syncD d by
            rw [HR.out.2, show i.toNat = d1.l.length from by have := HI.out; have := HN.out; omega, syncN_all])
          go_wp2_with fail
          go_ret
          exact ⟨by rw [HR.out.1]; rfl, ⟨g, cap, rs', by rw [← HALL.out]; exact HDW.out⟩, HFW.out⟩
end Go.Proofs.YtaplpeoikebedaaGreatDoor.DiskS
