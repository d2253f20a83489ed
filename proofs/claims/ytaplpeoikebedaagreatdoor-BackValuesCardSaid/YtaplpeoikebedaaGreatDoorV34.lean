/- Joined texts: BackV, BackN. No condition but what each says. -/
import Derived.Test.YtaplpeoikebedaaGreatDoorV33
import Derived.Test.YtaplpeoikebedaaGreatDoorV27
import Derived.Test.YtaplpeoikebedaaGreatDoorV29
import Derived.Test.YtaplpeoikebedaaGreatDoorV30
set_option maxHeartbeats 8000000
set_option maxRecDepth 100000
set_option linter.unusedVariables false
set_option linter.unusedSimpArgs false
namespace Go.Proofs.YtaplpeoikebedaaGreatDoor.BackV
open Go.RowKit Go.Maps YtaplpeoikebedaaGreatDoorW.PrintWords YtaplpeoikebedaaGreatDoorW.PrintLast YtaplpeoikebedaaGreatDoorW.PrintMore
open See Mem Clone Go.Proofs.YtaplpeoikebedaaGreatDoor.Cell Page PageB PageR Disk Dirty Pool2 SysD SysM StoreD StoreF TransT LockT LockU SpaceT WaitT FwdM FwdP FwdC FwdE FwdT BackM BackW
attribute [local go_sem] max2_imax min2_imin max_two min_two
theorem SvM.put {w : World} {bm : Nat} {m : Int} {vv : Int → Value} (h : SvM w bm m vv) {s : Int} {v : Value} (h0 : -9223372036854775808 ≤ s) (h1 : s ≤ 9223372036854775807) (hm : m < 1000000) :
    ∃ w', (Instr.mapUpdate 59 (.map (some bm)) (.int .i64 s) v).run Tryz.prog w = .ok () w' ∧ SvM w' bm (m + 1) (fun t => if t = s then v else vv t) ∧ w.grownBy w' (some bm) := by
  obtain ⟨n, D, hown, hn, hat⟩ := h
  obtain ⟨w', hrun, hown', hg⟩ := hown.update (key := .int .i64 s) (val := v) (d := .held v) (ps := []) (int_keyed Tryz.underlying3) Tryz.underlying59 (by unfold maxLen; omega) (keyOf_int_mk Tryz.underlying3 (wf64 h0 h1)) rfl
  refine ⟨w', hrun, ⟨n + 1, _, hown', by push_cast; omega, fun t => ?_⟩, hg⟩
  show _ = DataW.held (if t = s then v else vv t)
  by_cases e : t = s
  · rw [if_pos e, e]
    exact atKey_put_same (k := .int .i64 s) hown.isMap trivial _ _
  · rw [if_neg e, atKey_put_other (fun h => e (by injection h)), hat]
def updS (sv : Int → Sv) (n : Int) (v : Sv) : Int → Sv := fun t => if t = n then v else sv t
theorem BkIn.put {M R : Nat → Prop} {bp bm sp lp pp dp qp mp : Nat} {blocks frames : Int} {B : BSt} {sl : Int → Value} {w w' : World} (h : BkIn M w bp bm sp lp pp dp qp mp blocks frames B R sl) {n id t : Int} {v' : Value} {xs' : List Int} {nu : Int}
    (hos : w'.os = w.os ∧ w'.tape = w.tape ∧ w'.output = w.output) (hsz : w.heap.size ≤ w'.heap.size) (hfar : ∀ j, j < w.heap.size → j ≠ bm → (slOf B sl n id).ownBlock ≠ some j → w'.heap[j]? = w.heap[j]?)
    (hmap : SvM w' bm nu (fun s => if s = n then svV t v' else svV (B.sv s).txn (sl s))) (hrow : IS w' 0 v' xs') (hown : ∀ g, v'.ownBlock = some g → (slOf B sl n id).ownBlock = some g ∨ (w.heap.size ≤ g ∧ g < w'.heap.size)) :
    BkPost M bp bm sp lp pp dp qp mp blocks frames { F := B.F, sv := updS B.sv n ⟨t, xs'⟩, nu := nu } w w' := by
  obtain ⟨es, cl, hm⟩ := h.map.map
  have hsl : ∀ j, (slOf B sl n id).ownBlock = some j → (sl n).ownBlock = some j := fun j hj => by
    unfold slOf at hj
    split at hj
    · exact hj
    · simp [Value.ownBlock] at hj
  have nb : ¬ R bp := fun hr => (h.r bp hr).2.1 rfl
  have nm : ¬ R bm := fun hr => (h.r bm hr).2.2.1 rfl
  have hml := heap_lt hm
  have hbl := heap_lt h.box
  have hbm : bp ≠ bm := fun e => by have := h.box; rw [e, hm] at this; cases this
  have tm : tag w bm = 0 := by unfold tag; rw [hm]
  have hrow0 : ∀ j, (slOf B sl n id).ownBlock = some j → j < w.heap.size ∧ tag w j = 3 ∧ ¬ R j ∧ j ≠ bp ∧ j ≠ bm := fun j hj => by
    obtain ⟨a, b, c⟩ := h.rowAt (hsl j hj)
    refine ⟨a, b, c, fun e => ?_, fun e => ?_⟩
    · rw [e, tag_of h.box] at b; exact absurd b (by decide)
    · rw [e, tm] at b; exact absurd b (by decide)
  have hf : FwM (Cut R w.heap.size) w' sp lp pp dp qp mp blocks frames B.F := FwM.out (FwM.cut h.f) fun k hk hh => hfar k hk (fun e => by
    subst e
    rcases hh with hh | hh | hh
    · exact nm hh.1
    · rw [tm] at hh; exact absurd hh (by decide)
    · rw [tm] at hh; exact absurd hh (by decide)) (fun e => by
    obtain ⟨a, b, c, _⟩ := hrow0 k e
    rcases hh with hh | hh | hh
    · exact c hh.1
    · rw [b] at hh; exact absurd hh (by decide)
    · rw [b] at hh; exact absurd hh (by decide))
  refine ⟨⟨Cut R w.heap.size, fun s => if s = n then v' else sl s, (hfar bp hbl hbm fun e => (hrow0 bp e).2.2.2.1 rfl).trans h.box, hf, ?_, fun s => ?_, fun k hk => ?_, fun s k hk => ?_, fun s u k hs hu => ?_, .inl h.low.1, .inl h.low.2⟩, ⟨hos.1, hos.2.1, hos.2.2, hsz, fun k hk hn => ?_, fun k hk ht => ?_⟩⟩
  · have e : (fun s => svV ((updS B.sv n ⟨t, xs'⟩) s).txn (if s = n then v' else sl s)) = (fun s => if s = n then svV t v' else svV (B.sv s).txn (sl s)) := by
      funext s
      unfold updS
      by_cases e : s = n
      · rw [if_pos e, if_pos e, if_pos e]
      · rw [if_neg e, if_neg e, if_neg e]
    show SvM w' bm nu (fun s => svV ((updS B.sv n ⟨t, xs'⟩) s).txn (if s = n then v' else sl s))
    rw [e]; exact hmap
  · show IS w' 0 (if s = n then v' else sl s) ((updS B.sv n ⟨t, xs'⟩) s).l
    unfold updS
    by_cases e : s = n
    · rw [if_pos e, if_pos e]; exact hrow
    · rw [if_neg e, if_neg e]
      refine ow_move (h.row s) fun j hj => ?_
      obtain ⟨a, b, _⟩ := h.rowAt hj
      exact hfar j a (fun e2 => by rw [e2, tm] at b; exact absurd b (by decide)) (fun e2 => e (h.apart s n j hj (hsl j e2)))
  · obtain ⟨a, b, c, d⟩ := h.r k hk.1
    refine ⟨.inl a, b, c, fun s hs => ?_⟩
    by_cases e : s = n
    · rw [if_pos e] at hs
      rcases hown k hs with hs | ⟨q, _⟩
      · exact d n (hsl k hs)
      · have := hk.2; omega
    · rw [if_neg e] at hs
      exact d s hs
  · by_cases e : s = n
    · rw [if_pos e] at hk
      rcases hown k hk with hk | hk
      · exact .inl (h.own n k (hsl k hk))
      · exact .inr hk
    · rw [if_neg e] at hk
      exact .inl (h.own s k hk)
  · by_cases e : s = n
    · by_cases e2 : u = n
      · rw [e, e2]
      · exfalso
        rw [if_pos e] at hs
        rw [if_neg e2] at hu
        rcases hown k hs with hs | ⟨q, _⟩
        · exact e2 (h.apart u n k hu (hsl k hs))
        · have := (h.rowAt hu).1; omega
    · by_cases e2 : u = n
      · exfalso
        rw [if_neg e] at hs
        rw [if_pos e2] at hu
        rcases hown k hu with hu | ⟨q, _⟩
        · exact e (h.apart s n k hs (hsl k hu))
        · have := (h.rowAt hs).1; omega
      · rw [if_neg e] at hs
        rw [if_neg e2] at hu
        exact h.apart s u k hs hu
  · exact hfar k hk (fun e => hn (by rw [e]; exact h.low.2)) (fun e => hn (h.own n k (hsl k e)))
  · exact hfar k hk (fun e => by rw [e, tm] at ht; exact absurd ht (by decide)) (fun e => by rw [(hrow0 k e).2.1] at ht; exact absurd ht (by decide))
theorem slOf_row {M R : Nat → Prop} {bp bm sp lp pp dp qp mp : Nat} {blocks frames : Int} {B : BSt} {sl : Int → Value} {w : World} (h : BkIn M w bp bm sp lp pp dp qp mp blocks frames B R sl) (n id : Int) : IS w 0 (slOf B sl n id) (svOf B n id) := by
  unfold slOf svOf
  split
  · exact h.row n
  · exact IS.nil _ _
theorem save_calls (M : Nat → Prop) (bp bm sp lp pp dp qp mp : Nat) (blocks frames : Int) (B : BSt) (n : Int) (w : World) (h : BkM M w bp bm sp lp pp dp qp mp blocks frames B) (h0 : 0 ≤ n) (h1 : n < B.F.sess) (h2 : B.F.sess ≤ 1000) (hx : thas B.F.ts (B.F.of n) = true) (hr : Rising (kvT B.F.ts)) (hlen : (svOf B n (tget B.F.ts (B.F.of n)).id).length < 20) (hnu : B.nu < 1000000) :
    Calls Tryz.prog 31 #[.pointer (some ⟨bp, 0, none⟩), .int .i64 n] w fun e w' => e = .returned (.tuple #[.int .i64 ((svOf B n (tget B.F.ts (B.F.of n)).id).length : Int), .nilIface]) ∧ BkPost M bp bm sp lp pp dp qp mp blocks frames { F := B.F, sv := updS B.sv n ⟨(tget B.F.ts (B.F.of n)).id, svOf B n (tget B.F.ts (B.F.of n)).id ++ [(tget B.F.ts (B.F.of n)).next]⟩, nu := B.nu + 1 } w w' := by
  obtain ⟨R, sl, h⟩ := h
  have HC := Aside0.mk (bcalled_calls M R bp bm sp lp pp dp qp mp blocks frames B sl n w h h0 h1 h2 hx hr)
  have HRW := Aside0.mk (slOf_row h n (tget B.F.ts (B.F.of n)).id)
  have HH := Aside0.mk h
  obtain ⟨i0, hi, hzz⟩ := Option.map_eq_some_iff.1 info_int
  simp only [Prod.mk.injEq] at hzz
  obtain ⟨hz0, hz1, hz2⟩ := hzz
  have HI0 := Aside0.mk (And.intro hi (And.intro hz0 (And.intro hz1 hz2)))
  obtain ⟨x, hxx⟩ : ∃ x, tget B.F.ts (B.F.of n) = x := ⟨_, rfl⟩
  rw [hxx] at HC HRW hlen ⊢
  obtain ⟨xi, xs, xl, xn⟩ := x
  simp only at HRW hlen ⊢
  obtain ⟨ls, hls⟩ : ∃ ls, svOf B n xi = ls := ⟨_, rfl⟩
  obtain ⟨rs, hrs⟩ : ∃ v, slOf B sl n xi = v := ⟨_, rfl⟩
  have HRS := Aside0.mk hrs
  rw [hls] at HRW hlen ⊢
  rw [hrs] at HRW HC
  obtain ⟨A, c, rfl, _⟩ := ow_slice HRW.out
  obtain ⟨k, hk⟩ : ∃ k, ls.length = k := ⟨_, rfl⟩
  have HK := Aside0.mk hk
  rw [hk] at hlen HC HRW HRS ⊢
  have HWF := Aside0.mk (And.intro h0 (And.intro h1 h2))
  have HNU := Aside0.mk hnu
  have hd : decide ((20 : Int) ≤ (k : Int)) = false := decide_eq_false (by omega)
  simp only [txV, svV] at HC
  clear h h0 h1 h2 hx hr hnu hxx hls hrs hk hi hz0 hz1 hz2
  go_enter Tryz.func31, Tryz.ntmps31
  go_wp2_with fail
  refine HC.out.mono ?_
  rintro e w1 ⟨rfl, hb⟩
  obtain ⟨W, hW⟩ : ∃ W, (w1.alloc (.cells #[.int .i64 xi, .int .i64 xs, .int .i64 xl, .int .i64 xn] 102)).alloc (.cells #[.int .i64 xi, .slice A k c] 148) = W := ⟨_, rfl⟩
  have HBW := Aside0.mk (show Below w.heap.size w W from below_step hb (show Below w1.heap.size w1 W by rw [← hW]; repeat (first | exact Below.refl _ _ | apply below_alloc)))
  obtain ⟨bx, hbx⟩ : ∃ b, w1.heap.size = b := ⟨_, rfl⟩
  obtain ⟨bs, hbs⟩ : ∃ b, w1.heap.size + 1 = b := ⟨_, rfl⟩
  have HXB := Aside0.mk (show W.heap[bx]? = some (.cells #[.int .i64 xi, .int .i64 xs, .int .i64 xl, .int .i64 xn] 102 (0, 0)) from by
    rw [← hW, ← hbx]
    exact (Below.heap_alloc _ _ _ (by show _ < (w1.heap.push _).size; rw [Array.size_push]; omega)).trans (heap_alloc_new w1 _))
  have HSB := Aside0.mk (show W.heap[bs]? = some (.cells #[.int .i64 xi, .slice A k c] 148 (0, 0)) from by
    rw [← hW, ← hbs]
    exact ChangeT.alloc_at _ _ (show (w1.alloc _).heap.size = w1.heap.size + 1 from by show (w1.heap.push _).size = _; rw [Array.size_push]))
  have hszW : W.heap.size = w1.heap.size + 2 := by rw [← hW]; show ((w1.heap.push _).push _).size = _; rw [Array.size_push, Array.size_push]
  have hbw : w.heap.size ≤ w1.heap.size := hb.size
  have HWN := Aside0.mk (And.intro hW (And.intro hbx hbs))
  have hbs1 : w.heap.size ≤ bx ∧ bx + 1 = bs ∧ bs + 1 = W.heap.size := by omega
  clear hW hb hbx hbs hszW hbw
  go_upto_region 2 with fail
  rw [HWN.out.1, HWN.out.2.2, HWN.out.2.1]
  obtain ⟨x0, x1, x2, x3, _, _, _, _⟩ := tx_cells HXB.out
  have hxl := heap_lt HXB.out
  obtain ⟨e0, e1, s0, s1⟩ := sv_cells HSB.out
  have hsl := heap_lt HSB.out
  obtain ⟨hi, hz0, hz1, hz2⟩ := HI0.out
  have hk5 : k ≤ 100000 := by omega
  go_wp2_with (at_builtin; refine wpList_append_lies _ (by rfl) _ _ 22 (by rfl) 0 3 i0 (.int .i64 0) 1 8 Tryz.underlying22 hi hz0 hz1 hz2 rfl (by decide) _ k (ls.map (.int .i64)) (by rfl) ?own ⟨W.heap.size, 0, none⟩ 1 1 [.int .i64 xn] (by rfl) rfl ?news (one_int _) (by decide) (len_ok hk5) ?by8 ?base (W.heap.size + 1) ?hh ?_)
  case own => have := HRW.out; unfold IS at this; rw [HK.out] at this; exact ow_below (ow_below this HBW.out) (by repeat (first | exact Below.refl _ _ | apply below_drew1 | apply below_alloc))
  case news =>
    intro j u hj
    match j, hj with
    | 0, hj => simp at hj; subst hj; simp [Addr.add]
  case by8 => omega
  case base => exact Nat.zero_le _
  case hh => simp
  intro g2 cap2 w3 hown hgr hor hlt3
  have hne : ∀ j, (Value.slice A k c).ownBlock = some j → j < w.heap.size := fun j hj => by
    obtain ⟨_, cc, hcc⟩ := ow_block HRW.out hj
    exact heap_lt hcc
  have hbw0 : w.heap.size ≤ W.heap.size := HBW.out.size
  have hal : (W.alloc (.cells #[.int .i64 xn] 3)).heap.size = W.heap.size + 1 := by show (W.heap.push _).size = _; rw [Array.size_push]
  have HS3 := Aside0.mk (show w3.heap[bs]? = some (.cells #[.int .i64 xi, .slice A k c] 148 (0, 0)) from (hgr.block bs (by rw [hal]; omega) (fun e => by have := hne bs e.symm; omega)).trans ((Below.heap_alloc W _ _ (by omega)).trans HSB.out))
  have HF3 := Aside0.mk (show ∀ j, j < w.heap.size → (slOf B sl n xi).ownBlock ≠ some j → w3.heap[j]? = w.heap[j]? from fun j hj hn => (hgr.block j (by rw [hal]; omega) (fun e => hn (by rw [HRS.out]; exact e.symm))).trans ((Below.heap_alloc W _ _ (by omega)).trans (HBW.out.block j hj)))
  have HO3 := Aside0.mk (show IS w3 0 (.slice (some ⟨g2, 0, none⟩) (k + 1) cap2) (ls ++ [xn]) from by
    unfold IS
    rw [List.length_append, HK.out, List.map_append]
    exact hown)
  have HG2 := Aside0.mk (show (slOf B sl n xi).ownBlock = some g2 ∨ (w.heap.size ≤ g2 ∧ bs < g2) from by
    rcases hor with h | h
    · exact .inl (by rw [HRS.out]; exact h)
    · exact .inr (by omega))
  have HE3 := Aside0.mk (show w3.os = w.os ∧ w3.tape = w.tape ∧ w3.output = w.output ∧ w.heap.size ≤ w3.heap.size ∧ g2 < w3.heap.size from ⟨hgr.os.trans HBW.out.os, hgr.tape.trans HBW.out.tape, hgr.output.trans HBW.out.output, by have := hgr.size; rw [hal] at this; omega, hlt3⟩)
  clear hown hgr hor hlt3 hal hi hz0 hz1 hz2 x0 x1 x2 x3 hxl e0 e1 s0 s1 hsl
  obtain ⟨e0, e1, s0, s1⟩ := sv_cells HS3.out
  have hsl := heap_lt HS3.out
  go_upto_region 7 with fail
  obtain ⟨V, hV⟩ : ∃ V, w3.setCell ⟨bs, 1, none⟩ (.slice (some ⟨g2, 0, none⟩) (k + 1) cap2) = V := ⟨_, rfl⟩
  have HSV := Aside0.mk (show V.heap[bs]? = some (.cells #[.int .i64 xi, .slice (some ⟨g2, 0, none⟩) (k + 1) cap2] 148 (0, 0)) from by
    have h1 := heap_setCell_same w3 bs 1 _ _ (.slice (some ⟨g2, 0, none⟩) (k + 1) cap2) HS3.out
    rw [hV] at h1
    exact h1)
  have hgb : g2 ≠ bs := fun e => by
    rcases HG2.out with h | ⟨_, h⟩
    · rw [HRS.out] at h; have := hne g2 h; omega
    · omega
  have HOV := Aside0.mk (show IS V 0 (.slice (some ⟨g2, 0, none⟩) (k + 1) cap2) (ls ++ [xn]) from by
    rw [← hV]
    exact ow_move HO3.out fun j hj => Below.heap_setCell _ _ _ _ (by
      have : g2 = j := by simpa [Value.ownBlock] using hj
      show j ≠ bs; omega))
  have HFV := Aside0.mk (show ∀ j, j < w.heap.size → (slOf B sl n xi).ownBlock ≠ some j → V.heap[j]? = w.heap[j]? from fun j hj hn => by
    rw [← hV]
    exact (Below.heap_setCell _ _ _ _ (by show j ≠ bs; omega)).trans (HF3.out j hj hn))
  have hszV : V.heap.size = w3.heap.size := by rw [← hV]; simp [World.setCell]
  have HEV := Aside0.mk (show V.os = w.os ∧ V.tape = w.tape ∧ V.output = w.output ∧ w.heap.size ≤ V.heap.size ∧ g2 < V.heap.size from by
    obtain ⟨a1, a2, a3, a4, a5⟩ := HE3.out
    rw [hszV]
    exact ⟨by rw [← hV]; exact a1, by rw [← hV]; exact a2, by rw [← hV]; exact a3, a4, a5⟩)
  rw [hV]
  clear hV hszV HS3 HF3 HO3 HE3 e0 e1 s0 s1 hsl
  have hrowne : ∀ j, (slOf B sl n xi).ownBlock = some j → j ≠ bp ∧ j ≠ bm := fun j hj => by
    obtain ⟨es, cl, hm⟩ := HH.out.map.map
    have hr2 := slOf_row HH.out n xi
    obtain ⟨_, cc, hcc⟩ := ow_block hr2 hj
    refine ⟨fun e => ?_, fun e => ?_⟩
    · rw [e, HH.out.box] at hcc
      injection hcc with hcc
      injection hcc with _ h2
      exact absurd h2 (by decide)
    · rw [e, hm] at hcc
      cases hcc
  have hbB : V.heap[bp]? = some (.cells #[.pointer (some ⟨sp, 0, none⟩), .map (some bm)] 61 (0, 0)) := (HFV.out bp (heap_lt HH.out.box) (fun e => (hrowne bp e).1 rfl)).trans HH.out.box
  have hmV : V.heap[bm]? = w.heap[bm]? := by
    obtain ⟨es, cl, hm⟩ := HH.out.map.map
    exact HFV.out bm (heap_lt hm) (fun e => (hrowne bm e).2 rfl)
  have hn0 : -9223372036854775808 ≤ n ∧ n ≤ 9223372036854775807 := by have := HWF.out; omega
  obtain ⟨wa, hra, hsa, hga⟩ := SvM.put (HH.out.map.move hmV) (s := n) (v := svV xi (.slice (some ⟨g2, 0, none⟩) (k + 1) cap2)) hn0.1 hn0.2 HNU.out
  obtain ⟨wb, hrb, hsb, hgb2⟩ := SvM.put (w := V.drew) (HH.out.map.move hmV) (s := n) (v := svV xi (.slice (some ⟨g2, 0, none⟩) (k + 1) cap2)) hn0.1 hn0.2 HNU.out
  have HSA := Aside0.mk hsa
  have HGA := Aside0.mk hga
  have HSB2 := Aside0.mk hsb
  have HGB2 := Aside0.mk (show V.grownBy wb (some bm) from ⟨hgb2.os, hgb2.tape, hgb2.output, hgb2.size, hgb2.block⟩)
  simp only [svV] at hra hrb
  have HMV := Aside0.mk hmV
  have HBB := Aside0.mk hbB
  have HRN := Aside0.mk hrowne
  have j1 : V.cell? ⟨bp, 1, none⟩ = some (.map (some bm)) := by simp [World.cell?, hbB]
  have hbpl := heap_lt hbB
  obtain ⟨_, _, s0, s1⟩ := sv_cells HSV.out
  have hsl := heap_lt HSV.out
  clear hsa hga hsb hgb2 hmV hbB hrowne hn0
  go_cut [] (fun wx => Aside0 (SvM wx bm (B.nu + 1) (fun t => if t = n then svV xi (.slice (some ⟨g2, 0, none⟩) (k + 1) cap2) else svV (B.sv t).txn (sl t))) ∧ Aside0 (V.grownBy wx (some bm)))
  case first =>
    go_region_law (fail)
    all_goals
      go_wp2_with fail
      go_meet
      exact ⟨HSB2, HGB2⟩
  case rest =>
    obtain ⟨HSX, HGX⟩ := hcut
    generalize wc = Z at HSX HGX ⊢
    clear hra hrb s0 s1 hsl j1 hbpl
    have hbm2 : bs ≠ bm := fun e => by
      obtain ⟨es, cl, hm⟩ := HH.out.map.map
      have := heap_lt hm
      omega
    have HSZ := Aside0.mk ((HGX.out.block bs (heap_lt HSV.out) (fun e => hbm2 (by injection e))).trans HSV.out)
    obtain ⟨_, _, s0, s1⟩ := sv_cells HSZ.out
    have hsl := heap_lt HSZ.out
    have hw1 : IntKind.i64.wrap ((k : Int) + 1 - 1) = k := by rw [IntKind.wrap_i64]; omega
    have hw2 : IntKind.i64.wrap (k : Int) = k := by rw [IntKind.wrap_i64]; omega
    have HFIN := Aside0.mk (BkIn.put (w' := Z) (n := n) (id := xi) (t := xi) (v' := .slice (some ⟨g2, 0, none⟩) (k + 1) cap2) (xs' := ls ++ [xn]) (nu := B.nu + 1) HH.out
      ⟨HGX.out.os.trans HEV.out.1, HGX.out.tape.trans HEV.out.2.1, HGX.out.output.trans HEV.out.2.2.1⟩ (Nat.le_trans HEV.out.2.2.2.1 HGX.out.size)
      (fun j hj hne2 hn2 => (HGX.out.block j (Nat.lt_of_lt_of_le hj HEV.out.2.2.2.1) (fun e => hne2 (by injection e))).trans (HFV.out j hj hn2)) HSX.out
      (ow_move HOV.out fun j hj => HGX.out.block j (by
        have : g2 = j := by simpa [Value.ownBlock] using hj
        have := HEV.out.2.2.2.2
        omega) (fun e => by
        have e2 : j = bm := by injection e
        obtain ⟨es, cl, hm⟩ := HH.out.map.map
        obtain ⟨_, cc, hcc⟩ := ow_block HOV.out hj
        rw [e2, HMV.out, hm] at hcc
        cases hcc))
      (fun g hg => by
        have e : g2 = g := by simpa [Value.ownBlock] using hg
        subst e
        rcases HG2.out with h | ⟨h, _⟩
        · exact .inl h
        · exact .inr ⟨h, Nat.lt_of_lt_of_le HEV.out.2.2.2.2 HGX.out.size⟩))
    go_wp2_with fail
    exact bodyPost_ret (v := .tuple #[.int .i64 (k : Int), .nilIface]) (by simp [results, Tryz.results31, go_sem]) rfl ⟨rfl, HFIN.out⟩
end Go.Proofs.YtaplpeoikebedaaGreatDoor.BackV
namespace Go.Proofs.YtaplpeoikebedaaGreatDoor.BackN
open Go.RowKit Go.Maps YtaplpeoikebedaaGreatDoorW.PrintWords YtaplpeoikebedaaGreatDoorW.PrintLast YtaplpeoikebedaaGreatDoorW.PrintMore
open See Mem Page Disk DiskN RecD Pool2 Pool3 Wal Fresh SysD SysM StoreD StoreF StoreI StoreJ RoomD TransT LockT LockU SpaceT WaitT FwdM FwdP FwdC FwdN FwdO FwdB FwdG First17 RefN BackM BackV
attribute [local go_sem] max2_imax min2_imin max_two min_two
def newB (F : FS) : BSt := ⟨F, fun _ => ⟨0, []⟩, 0⟩
theorem bnew_calls (n0 sp lp pp dp qp mp : Nat) (blocks frames : Int) (F : FS) (w : World) (h : FwM (fun k => n0 ≤ k) w sp lp pp dp qp mp blocks frames F) (hn : n0 ≤ w.heap.size) :
    Calls Tryz.prog 82 #[.pointer (some ⟨sp, 0, none⟩)] w fun e w' => ∃ bp bm, e = .returned (.pointer (some ⟨bp, 0, none⟩)) ∧ BkM (fun k => n0 ≤ k) w' bp bm sp lp pp dp qp mp blocks frames (newB F) ∧ Below w.heap.size w w' := by
  have HF := Aside0.mk h
  clear h
  have hmm := @run_makeMap Tryz.prog
  go_enter Tryz.func82, Tryz.ntmps82
  go_wp2_with fail
  have HB := Aside0.mk (show Below w.heap.size w ((w.alloc (.map #[] 0)).alloc (.cells #[.pointer (some ⟨sp, 0, none⟩), .map (some w.heap.size)] 61)) from by repeat (first | exact Below.refl _ _ | apply below_alloc))
  have HS := Aside0.mk (show SvM ((w.alloc (.map #[] 0)).alloc (.cells #[.pointer (some ⟨sp, 0, none⟩), .map (some w.heap.size)] 61)) w.heap.size 0 (fun _ => svV 0 (.slice none 0 0)) from
    ⟨0, .map [], (World.ownsMap_made w Tryz.prog 3 rS).alloc _, Int.le_refl _, fun s => rfl⟩)
  have HX := Aside0.mk (show ((w.alloc (.map #[] 0)).alloc (.cells #[.pointer (some ⟨sp, 0, none⟩), .map (some w.heap.size)] 61)).heap[w.heap.size + 1]? = some (.cells #[.pointer (some ⟨sp, 0, none⟩), .map (some w.heap.size)] 61 (0, 0)) from
    ChangeT.alloc_at _ _ (show (w.alloc _).heap.size = w.heap.size + 1 from by show (w.heap.push _).size = _; rw [Array.size_push]))
  go_ret
  refine ⟨w.heap.size + 1, w.heap.size, rfl, ⟨Cut (fun k => n0 ≤ k) w.heap.size, fun _ => .slice none 0 0, HX.out, (FwM.cut HF.out).below HB.out, HS.out, fun s => IS.nil _ _, fun k hk => ⟨hk.1, by have := hk.2; omega, by have := hk.2; omega, fun s => by simp [Value.ownBlock]⟩, fun s k hk => by simp [Value.ownBlock] at hk, fun s t k hk => by simp [Value.ownBlock] at hk, ⟨by show n0 ≤ _; omega, hn⟩⟩, HB.out⟩
def MadePost (P blocks frames sess : Int) (w : World) (e : Ending) (w' : World) : Prop :=
  ∃ bp bm sp lp pp dp qp mp q, e = .returned (.tuple #[.pointer (some ⟨bp, 0, none⟩), .pointer (some ⟨q, 0, none⟩), .pointer (some ⟨lp, 0, none⟩), .pointer (some ⟨pp, 0, none⟩)]) ∧ BkM (fun k => w.heap.size ≤ k) w' bp bm sp lp pp dp qp mp blocks frames (newB (newF P blocks frames sess)) ∧ Below w.heap.size w w'
theorem cfg_keep {w w' : World} {b : Nat} {o : Obj} (h : w.heap[b]? = some o) (hb : Below w.heap.size w w') : w'.heap[b]? = some o := (hb.block _ (heap_lt h)).trans h
theorem made18_calls (P blocks frames sess : Int) (h1 : 1 ≤ P ∧ P ≤ 32) (h2 : 1 ≤ blocks ∧ blocks ≤ 100) (h3 : 1 ≤ frames ∧ frames ≤ 8) (w : World) :
    Calls Tryz.prog 30 #[.agg #[.int .i64 P, .int .i64 blocks, .int .i64 frames, .int .i64 sess]] w (MadePost P blocks frames sess w) := by
  obtain ⟨n1, hn1⟩ : ∃ n, 1 + P = n := ⟨_, rfl⟩
  obtain ⟨n2, hn2⟩ : ∃ n, n1 + blocks = n := ⟨_, rfl⟩
  obtain ⟨n3, hn3⟩ : ∃ n, P + 1 = n := ⟨_, rfl⟩
  have e1 : IntKind.i64.wrap (1 + P) = n1 := by rw [IntKind.wrap_i64]; omega
  have e2 : IntKind.i64.wrap (n1 + blocks) = n2 := by rw [IntKind.wrap_i64]; omega
  have e3 : IntKind.i64.wrap (P + 1) = n3 := by rw [IntKind.wrap_i64]; omega
  have HN2 := Aside0.mk (show secsN n2 = (1 + P + blocks).toNat from by unfold secsN; rw [imax_eq, imin_eq]; omega)
  have HN3 := Aside0.mk hn3
  have HFR := Aside0.mk (show imin (imax frames 1) 8 = frames by rw [imax_eq, imin_eq]; omega)
  have H123 := Aside0.mk (And.intro h1 (And.intro h2 h3))
  clear h1 h2 h3 hn1 hn2 hn3
  go_enter Tryz.func30, Tryz.ntmps30
  go_wp2_with fail
  refine (new_disk n2 _).mono ?_
  rintro e w0 ⟨dp, rfl, hd, hb⟩
  have HCF0 := Aside0.mk (show w0.heap[w.heap.size]? = some (.cells #[.int .i64 P, .int .i64 blocks, .int .i64 frames, .int .i64 sess] 31 (0, 0)) from (hb.block w.heap.size (by show _ < (w.heap.push _).size; rw [Array.size_push]; omega)).trans (heap_alloc_new w _))
  rw [HN2.out] at hd
  have HD0 := Aside0.mk hd
  have HB0 := Aside0.mk (below_step (below_alloc (Below.refl w.heap.size w) _) hb)
  clear hd hb
  go_wp2_with fail
  refine (rdisk_calls n2 w0).mono ?_
  rintro e w1 ⟨rd, rfl, hb⟩
  have HB := Aside0.mk (below_step HB0.out hb)
  have HD := Aside0.mk (HD0.out.below hb)
  have HCF1 := Aside0.mk (cfg_keep HCF0.out hb)
  have hs1 : w.heap.size ≤ w1.heap.size := HB.out.size
  clear hb
  obtain ⟨c0, c1, c2, c3⟩ := cfg_cells HCF1.out
  have hl1 := heap_lt HCF1.out
  go_wp2_with fail
  refine (new_log dp n3 blocks 0 1 _).mono ?_
  rintro e w2 ⟨rfl, hw2⟩
  have HW2 := Aside0.mk hw2
  have HB2 := Aside0.mk (show Below w1.heap.size w1 w2 by rw [hw2]; exact below_alloc (Below.refl _ _) _)
  have HCF2 := Aside0.mk (cfg_keep HCF1.out HB2.out)
  clear hw2 c0 c1 c2 c3 hl1
  obtain ⟨c0, c1, c2, c3⟩ := cfg_cells HCF2.out
  have hl1 := heap_lt HCF2.out
  go_wp2_with fail
  refine (rlog_calls rd n3 blocks 0 1 w2).mono ?_
  rintro e w3 ⟨rfl, hrl, hb⟩
  have HRL3 := Aside0.mk hrl
  have HB3 := Aside0.mk hb
  have HCF3 := Aside0.mk (cfg_keep HCF2.out hb)
  clear hrl hb c0 c1 c2 c3 hl1
  obtain ⟨c0, c1, c2, c3⟩ := cfg_cells HCF3.out
  have hl1 := heap_lt HCF3.out
  go_wp2_with fail
  refine (new_pool dp _ frames _).mono ?_
  rintro e w4 ⟨rfl, hw4⟩
  have HW4 := Aside0.mk hw4
  rw [HFR.out] at HW4
  have HB4 := Aside0.mk (show Below w3.heap.size w3 w4 by rw [hw4]; exact below_alloc (Below.refl _ _) _)
  have HCF4 := Aside0.mk (cfg_keep HCF3.out HB4.out)
  clear hw4 c0 c1 c2 c3 hl1
  have HX := Aside0.mk (show SysM (fun k => w.heap.size ≤ k) w4 w3.heap.size w1.heap.size dp (newF P blocks frames sess).S by
    have hs1 := HB.out.size
    have hs2 := HB2.out.size
    have hs3 := HB3.out.size
    have hp4 : w4.heap[w3.heap.size]? = some (.cells (poolCells (.slice none 0 0) dp w1.heap.size frames (.slice none 0 0)) 163 (0, 0)) := by rw [HW4.out]; exact heap_alloc_new _ _
    have hl2 : w2.heap[w1.heap.size]? = some (.cells (logCells dp n3 blocks 0 1 (.slice none 0 0) 0) 121 (0, 0)) := by rw [HW2.out]; exact heap_alloc_new _ _
    have hl4 := cfg_keep (cfg_keep hl2 HB3.out) HB4.out
    have := H123.out
    rw [← HN3.out] at hl4
    exact sys0_mem ((((HD.out.mono fun k hk => by
      have : (w.alloc (.cells #[.int .i64 P, .int .i64 blocks, .int .i64 frames, .int .i64 sess] 31)).heap.size = w.heap.size + 1 := by show (w.heap.push _).size = _; rw [Array.size_push]
      have hk2 : (w.alloc (.cells #[.int .i64 P, .int .i64 blocks, .int .i64 frames, .int .i64 sess] 31)).heap.size ≤ k := hk
      show w.heap.size ≤ k
      omega).below HB2.out).below HB3.out).below HB4.out) hl4 hp4 (by omega) (by omega) (by omega) (by omega) (by omega))
  obtain ⟨c0, c1, c2, c3⟩ := cfg_cells HCF4.out
  have hl1 := heap_lt HCF4.out
  have HB40 := Aside0.mk (below_step (below_step (below_step HB.out HB2.out) HB3.out) HB4.out)
  have HROOM := Aside0.mk (show (newF P blocks frames sess).S.l.room = blocks * 6 from by
    have := H123.out
    have e : (newF P blocks frames sess).S.l.room = max (min (blocks * 6 - 0) (1073741824 - (0 + 0))) 0 := rfl
    rw [e]; omega)
  go_wp2_with fail
  refine (new_calls _ w1.heap.size w3.heap.size dp (newF P blocks frames sess).S P blocks frames sess 0 _ HX.out (by rw [HROOM.out]; have := H123.out; omega) (Int.le_refl 0)).mono ?_
  rintro e w5 ⟨sp, qp, mp, rfl, hf, hb⟩
  rw [HROOM.out] at hf
  have HF := Aside0.mk (show FwM (fun k => w.heap.size ≤ k) w5 sp w1.heap.size w3.heap.size dp qp mp blocks frames (newF P blocks frames sess) from fw_up HB40.out hf)
  have HB5 := Aside0.mk (below_step HB40.out hb)
  have HCF5 := Aside0.mk (cfg_keep HCF4.out hb)
  have HRL5 := Aside0.mk (cfg_keep (cfg_keep HRL3.out HB4.out) hb)
  clear hf hb c0 c1 c2 c3 hl1
  obtain ⟨c0, c1, c2, c3⟩ := cfg_cells HCF5.out
  have hl1 := heap_lt HCF5.out
  have HBN := Aside0.mk (fun (V : World) (hb : Below w5.heap.size w5 V) => bnew_calls w.heap.size sp w1.heap.size w3.heap.size dp qp mp blocks frames (newF P blocks frames sess) V (HF.out.below hb) (Nat.le_trans HB5.out.size hb.size))
  have HNP := Aside0.mk (fun (V : World) => (rpool_calls rd w2.heap.size frames V).mono (fun e w' hh => (⟨_, hh.1, hh.2⟩ : ∃ q, e = .returned (.pointer (some ⟨q, 0, none⟩)) ∧ Below V.heap.size V w')))
  have HRN := Aside0.mk (fun (q : Nat) (V : World) (hb : Below w5.heap.size w5 V) => rnew_calls P blocks frames sess rd q (.pointer (some ⟨w2.heap.size, 0, none⟩)) (.agg #[.int .i64 0, .int .i64 0, .int .i64 0, .int .i64 0, .int .i64 0, .int .i64 0, .int .i64 0]) w2.heap.size V rfl rfl (by have := H123.out; omega) (cellx (cfg_keep HRL5.out hb) rfl).1 (cellx (cfg_keep HRL5.out hb) rfl).1 (cellx (cfg_keep HRL5.out hb) rfl).1)
  have HCK := Aside0.mk (fun (V : World) (hb : Below w5.heap.size w5 V) => cfg_cells (cfg_keep HCF5.out hb))
  go_upto_region 16 with fail
  go_cut [2, 3, 4, 5] (fun v2 v3 v4 v5 wx => v4 = .pointer (some ⟨w1.heap.size, 0, none⟩) ∧ v5 = .pointer (some ⟨w3.heap.size, 0, none⟩) ∧ ∃ bp bm q, v2 = .pointer (some ⟨bp, 0, none⟩) ∧ v3 = .pointer (some ⟨q, 0, none⟩) ∧ Aside0 (BkM (fun k => w.heap.size ≤ k) wx bp bm sp w1.heap.size w3.heap.size dp qp mp blocks frames (newB (newF P blocks frames sess))) ∧ Aside0 (Below w5.heap.size w5 wx))
  case first =>
    clear HX HROOM HD HD0 HW2 HW4 HB0 HB HB2 HB3 HB4 HB40 HCF0 HCF1 HCF2 HCF3 HCF4 HRL3 HN2 HFR
    go_region_law (first
      | (go_simp; go_at_call 82; refine (HBN.out _ ?hb).mono ?_; (case hb => repeat (first | exact hqn | exact hqp | exact Below.refl _ _ | apply below_drew1)); rintro e wa ⟨bp, bm, rfl, hbk, hba⟩; have hqb : Below w5.heap.size w5 wa := below_step (by repeat (first | exact hqn | exact hqp | exact Below.refl _ _ | apply below_drew1)) hba; obtain ⟨u0, u1, u2, u3⟩ := HCK.out wa hqb)
      | (go_simp; go_at_call 84; refine (HNP.out _).mono ?_; rintro e wb ⟨q1, rfl, hbb⟩; have hqp : Below w5.heap.size w5 wb := below_step (by repeat (first | exact hqb | exact Below.refl _ _ | apply below_drew1)) hbb; obtain ⟨v0, v1, v2, v3⟩ := HCK.out wb hqp)
      | (go_simp; go_at_call 83; refine (HRN.out q1 _ ?hb).mono ?_; (case hb => repeat (first | exact hqb | exact hqp | apply below_drew1)); rintro e wc ⟨q2, rfl, hbc⟩; have hqn : Below w5.heap.size w5 wc := below_step (by repeat (first | exact hqb | exact hqp | apply below_drew1)) hbc; obtain ⟨t0, t1, t2, t3⟩ := HCK.out wc hqn))
    all_goals
      go_wp2_with fail
      go_meet
      first
        | exact ⟨rfl, rfl, bp, bm, q2, rfl, rfl, ⟨BkM.below hbk (below_step hbb hbc)⟩, ⟨hqn⟩⟩
        | exact ⟨rfl, rfl, bp, bm, q2, rfl, rfl, ⟨BkM.below hbk hbc⟩, ⟨hqn⟩⟩
        | exact ⟨rfl, rfl, bp, bm, q2, rfl, rfl, ⟨hbk⟩, ⟨hqb⟩⟩
  case rest =>
    obtain ⟨rfl, rfl, bp, bm, q, rfl, rfl, HBK, HBX⟩ := hcut
    generalize wc = Z at HBK HBX ⊢
    have HBZ := Aside0.mk (below_step HB5.out HBX.out)
    go_wp2_with fail
    exact bodyPost_ret (v := .tuple #[.pointer (some ⟨bp, 0, none⟩), .pointer (some ⟨q, 0, none⟩), .pointer (some ⟨w1.heap.size, 0, none⟩), .pointer (some ⟨w3.heap.size, 0, none⟩)]) (by simp [results, Tryz.results30, go_sem]) rfl ⟨bp, bm, sp, _, _, dp, qp, mp, q, rfl, HBK.out, HBZ.out⟩
end Go.Proofs.YtaplpeoikebedaaGreatDoor.BackN
