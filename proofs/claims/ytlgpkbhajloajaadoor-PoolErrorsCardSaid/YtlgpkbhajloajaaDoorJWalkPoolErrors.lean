/- The walk of PoolErrors: it answers true. No condition but that api's errors are what their text says. -/
import Derived.Test.YtlgpkbhajloajaaDoorJ6
import Derived.Test.YtlgpkbhajloajaaDoorJ1
namespace Go.Proofs.YtlgpkbhajloajaaDoor.WalkPoolErrors
open Go.RowKit Go.Proofs.YtlgpkbhajloajaaDoorW.PrintWords Go.Proofs.YtlgpkbhajloajaaDoorW.PrintLast Go.Proofs.YtlgpkbhajloajaaDoorW.PrintMore
open Go.Proofs.YtlgpkbhajloajaaDoor.See Go.Proofs.YtlgpkbhajloajaaDoor.SeeAt Go.Proofs.YtlgpkbhajloajaaDoor.ErrD Go.Proofs.YtlgpkbhajloajaaDoor.Mem Go.Proofs.YtlgpkbhajloajaaDoor.Clone Go.Proofs.YtlgpkbhajloajaaDoor.Cell Go.Proofs.YtlgpkbhajloajaaDoor.Page Go.Proofs.YtlgpkbhajloajaaDoor.PageB Go.Proofs.YtlgpkbhajloajaaDoor.PageR Go.Proofs.YtlgpkbhajloajaaDoor.PageL Go.Proofs.YtlgpkbhajloajaaDoor.Disk Go.Proofs.YtlgpkbhajloajaaDoor.DiskN Go.Proofs.YtlgpkbhajloajaaDoor.DiskW Go.Proofs.YtlgpkbhajloajaaDoor.DiskS Go.Proofs.YtlgpkbhajloajaaDoor.RecD Go.Proofs.YtlgpkbhajloajaaDoor.Pool1 Go.Proofs.YtlgpkbhajloajaaDoor.Pool2 Go.Proofs.YtlgpkbhajloajaaDoor.Pool3 Go.Proofs.YtlgpkbhajloajaaDoor.Wal Go.Proofs.YtlgpkbhajloajaaDoor.WalF Go.Proofs.YtlgpkbhajloajaaDoor.Dirty Go.Proofs.YtlgpkbhajloajaaDoor.Dirty2 Go.Proofs.YtlgpkbhajloajaaDoor.SysD Go.Proofs.YtlgpkbhajloajaaDoor.SysM Go.Proofs.YtlgpkbhajloajaaDoor.PoolF Go.Proofs.YtlgpkbhajloajaaDoor.PoolE Go.Proofs.YtlgpkbhajloajaaDoor.PoolG Go.Proofs.YtlgpkbhajloajaaDoor.PoolS Go.Proofs.YtlgpkbhajloajaaDoor.Num Go.Proofs.YtlgpkbhajloajaaDoor.Fresh Go.Proofs.YtlgpkbhajloajaaDoor.Del
attribute [local go_sem] max2_imax min2_imin max_two min_two
set_option linter.unusedVariables false
set_option linter.unusedSimpArgs false
set_option linter.constructorNameAsVariable false

/-- The pool, step by step. -/
def sE0 (v : Int) : PSys := { sys0 20 10 9 3 with d := dE v }
def sE1 (v : Int) : PSys := { sE0 v with here := [⟨2, 0, []⟩] }
def sE2 (v : Int) : PSys := { sE0 v with here := [⟨2, 3, []⟩], t := [(2, 3)] }

theorem roomE (v : Int) : ¬ (sE0 v).frames ≤ (sE0 v).here.length := by show ¬ (3 : Int) ≤ ((([] : List Fp).length : Nat) : Int); simp
theorem getE_low (v : Int) {n h : Int} (hn : n < 1) : getS (sE0 v) n h = (sE0 v, (0, []), .bare 1) := getS_low rfl hn
theorem getE_out (v : Int) {n h : Int} (hn : 20 ≤ n) : getS (sE0 v) n h = (sE0 v, (0, []), .bare 1) := by
  rw [getS_room rfl (by omega) (roomE v)]
  unfold getTail
  rw [show readE (sE0 v).d n = some 1 from dE_out hn]
theorem getE_bad {v : Int} (h : Int) (hv : v ≠ 0) : getS (sE0 v) 4 h = (sE0 v, (0, []), .at 4 6) := by
  rw [getS_room rfl (by omega) (roomE v)]
  unfold getTail
  rw [show readE (sE0 v).d 4 = none from (dE_at4 v).1, show readV (sE0 v).d 4 = zset v from (dE_at4 v).2, zset_read hv]
theorem getE_two (v h : Int) : getS (sE0 v) 2 h = (sE1 v, (0, []), .fine) := by
  rw [getS_room rfl (by omega) (roomE v)]
  unfold getTail
  rw [show readE (sE0 v).d 2 = none from (dE_at2 v).1, show readV (sE0 v).d 2 = List.replicate 256 0 from (dE_at2 v).2, read_zero]
  rfl
theorem setE_none (v l : Int) : setS (sE0 v) 2 l [] = (sE0 v, some 1) := setS_none rfl
theorem setE_bad (v : Int) : setS (sE1 v) 2 (-1) [] = (sE1 v, some 1) := setS_bad (f := ⟨2, 0, []⟩) rfl (by decide)
theorem setE_ok (v : Int) : setS (sE1 v) 2 3 [] = (sE2 v, none) := by
  rw [setS_ok (f := ⟨2, 0, []⟩) rfl (by decide)]
  rfl

theorem dE_loose (v : Int) : LooseLe (dE v) 40000 := (writeD_loose 4 (zset v) (zdisk_loose 20 39999)).mono (by omega)

theorem zb200 (W : World) : (W.alloc (.cells zb 5)).cell? ⟨W.heap.size, 200, none⟩ = some (.int .u8 0) := by
  have h : zb[200]? = some (.int .u8 0) := by
    rw [← Array.getElem?_toList, zb_list, List.getElem?_map, List.getElem?_replicate, if_pos (by omega)]; rfl
  simp only [World.cell?]
  rw [heap_alloc_new]
  exact h

theorem bs_zset {W : World} {b : Nat} {v : Int} (h : W.heap[b]? = some (.cells (zb.setIfInBounds 200 (.int .u8 v)) 5 (0, 0))) : BS W (.slice (some ⟨b, 0, none⟩) 256 256) (zset v) := by
  have hl : (zb.setIfInBounds 200 (.int .u8 v)).size = 256 := by rw [Array.size_setIfInBounds]; exact size_madeCells _ _
  refine ⟨by rw [List.length_map, zset_len], by rw [zset_len]; omega, .inr ⟨b, 0, 256, zb.setIfInBounds 200 (.int .u8 v), _, by rw [zset_len], h, by rw [zset_len]; omega, by decide, by rw [zset_len, hl]; omega, ?_⟩⟩
  rw [List.drop_zero, zset_len]
  rw [List.take_of_length_le (by rw [Array.length_toList, hl]; omega), Array.toList_setIfInBounds, zb_list]
  unfold zset
  rw [List.map_set]

theorem sys_keep {n : Nat} {w w1 w2 : World} {pp lp dp : Nat} {S : PSys} (hb : Below n w w1) (hx : SysM (Gr (fun k => w.heap.size ≤ k) w1 w2) w2 pp lp dp S) : SysM (fun k => w.heap.size ≤ k) w2 pp lp dp S :=
  hx.mono fun k hk => by
    rcases hk with hk | ⟨h1, _⟩
    · exact hk
    · exact Nat.le_trans hb.size h1

set_option maxHeartbeats 8000000 in
set_option maxRecDepth 100000 in
theorem errors_calls (a0 a1 : Int) (h0 : 0 ≤ a1) (h1 : a1 < 256) (a : Nat → Addr) (w : World) (hs : SentsAll w a) :
    Calls Tryd.prog 4 #[.int .i64 a0, .int .u8 a1] w fun e w' => e = .returned (.bool true) ∧ Below w.heap.size w w' := by
  have HS := Aside0.mk hs
  obtain ⟨y, hy⟩ : ∃ r, a0 % 100 = r := ⟨_, rfl⟩
  have HY := Aside0.mk hy
  have y0 : 0 ≤ y := by omega
  have y9 : y < 100 := by omega
  obtain ⟨v, hv⟩ : ∃ v, bits .or .u8 a1 1 = v := ⟨_, rfl⟩
  have HV := Aside0.mk (show 1 ≤ v ∧ v < 256 from by rw [← hv]; exact or1_ok h0 h1)
  have HVN := Aside0.mk (show v ≠ 0 from by have := HV.out; omega)
  clear hs hy
  go_enter Tryd.func4, Tryd.ntmps4
  go_wp2_with fail
  refine (first_calls a _ (HS.out.k kn (by decide))).mono ?_
  rintro e w1 ⟨rfl, hb⟩
  have HBA := Aside0.mk hb
  clear hb
  go_wp2_with fail
  refine (made_calls 3 (by decide) (by decide) _).mono ?_
  rintro e w2 ⟨dp, lp, pp, rfl, hx, hb⟩
  have HX := Aside0.mk hx
  have HB := Aside0.mk hb
  have hmk := make256
  have hz200 := zb200
  clear hb hx
  go_wp2_with fail
  have HB3 := Aside0.mk (below_alloc HB.out (.cells (zb.setIfInBounds 200 (.int .u8 v)) 5))
  have HX3 := Aside0.mk (HX.out.below (below_alloc (Below.refl _ _) (.cells (zb.setIfInBounds 200 (.int .u8 v)) 5)))
  clear hmk hz200 hv
  refine (write_disk a _ dp (zdisk 20) 4 _ (zset v) _ ((HS.out.below (below_step HBA.out HB3.out)).k kn (by decide)) (out_of ((HS.out.below HBA.out).k kn (by decide))) HX3.out.dsk (bs_zset (heap_alloc_new _ _)) (zset_isB (by have := HV.out; omega) HV.out.2) HX3.out.fuse (zdisk_loose 20 100000)).mono ?_
  rintro e w4 ⟨rfl, hd4, hf4⟩
  rw [dE_fine, show errv a none = .nilIface from rfl]
  have HX4 := Aside0.mk (sys_keep HB3.out (HX3.out.disk hd4 hf4 (writeD_fuse _ _ HX3.out.fuse)))
  have HB4 := Aside0.mk (frm_below HB3.out hf4 HB3.out.size)
  replace HX4 := Aside0.mk (show SysM (fun k => w1.heap.size ≤ k) w4 pp lp dp (sE0 v) from HX4.out)
  clear hd4 hf4
  go_wp2_with fail
  refine (num_at _ _ _ (by omega) (by omega) HY.out _).mono ?_
  rintro e w' ⟨rfl, rfl⟩
  have hneg : -y < 1 := by omega
  have HNEG := Aside0.mk hneg
  have HOUT := Aside0.mk (show 20 ≤ 20 + y by omega)
  go_wp2_with fail
  refine (get_pool a _ pp lp dp _ (-y) 0 _ ((HS.out.below (below_step HBA.out HB4.out)).k kn (by decide)) (out_of ((HS.out.below HBA.out).k kn (by decide))) HX4.out (dE_loose v) (by decide) (by decide)).mono ?_
  rintro e w5 ⟨sl, ev5, rfl, hp, hv5, hx, hf⟩
  rw [getE_low v HNEG.out] at hp hv5 hx ⊢
  have HX50 := Aside0.mk (sys_keep HB4.out hx)
  have HB50 := Aside0.mk (frm_below HB4.out hf HB4.out.size)
  obtain ⟨A5, c5, rfl, _⟩ := ow_slice hp.1
  clear hp hx hf
  have hev : ev5 = .iface 163 (.pointer (some (a 1))) := hv5
  subst hev
  simp only [List.length_nil]
  have HX5 := Aside0.mk (HX50.out.below (below_alloc (Below.refl _ _) (.cells #[.int .i64 0, .slice A5 0 c5] 32)))
  have HB5 := Aside0.mk (below_alloc HB50.out (.cells #[.int .i64 0, .slice A5 0 c5] 32))
  clear HX50 HB50
  go_wp2_with fail
  refine (get_pool a _ pp lp dp _ (20 + y) 0 _ ((HS.out.below (below_step HBA.out HB5.out)).k kn (by decide)) (out_of ((HS.out.below HBA.out).k kn (by decide))) HX5.out (dE_loose v) (by decide) (by decide)).mono ?_
  rintro e w6 ⟨sl, ev6, rfl, hp, hv6, hx, hf⟩
  rw [getE_out v HOUT.out] at hp hv6 hx ⊢
  have HX60 := Aside0.mk (sys_keep HB5.out hx)
  have HB60 := Aside0.mk (frm_below HB5.out hf HB5.out.size)
  obtain ⟨A6, c6, rfl, _⟩ := ow_slice hp.1
  clear hp hx hf
  have hev : ev6 = .iface 163 (.pointer (some (a 1))) := hv6
  subst hev
  simp only [List.length_nil]
  have HX6 := Aside0.mk (HX60.out.below (below_alloc (Below.refl _ _) (.cells #[.int .i64 0, .slice A6 0 c6] 32)))
  have HB6 := Aside0.mk (below_alloc HB60.out (.cells #[.int .i64 0, .slice A6 0 c6] 32))
  clear HX60 HB60
  go_wp2_with fail
  refine (get_pool a _ pp lp dp _ 4 0 _ ((HS.out.below (below_step HBA.out HB6.out)).k kn (by decide)) (out_of ((HS.out.below HBA.out).k kn (by decide))) HX6.out (dE_loose v) (by decide) (by decide)).mono ?_
  rintro e w7 ⟨sl, ev7, rfl, hp, hv7, hx, hf⟩
  rw [getE_bad _ HVN.out] at hp hv7 hx ⊢
  have HX70 := Aside0.mk (sys_keep HB6.out hx)
  have HB70 := Aside0.mk (frm_below HB6.out hf HB6.out.size)
  obtain ⟨A7, c7, rfl, _⟩ := ow_slice hp.1
  clear hp hx hf
  have HAT70 := Aside0.mk (show AtV a w7 4 6 ev7 from hv7)
  obtain ⟨bat, hbat, _⟩ := hv7
  subst hbat
  simp only [List.length_nil]
  have HX7 := Aside0.mk (HX70.out.below (below_alloc (Below.refl _ _) (.cells #[.int .i64 0, .slice A7 0 c7] 32)))
  have HB7 := Aside0.mk (below_alloc HB70.out (.cells #[.int .i64 0, .slice A7 0 c7] 32))
  have HAT7 := Aside0.mk (HAT70.out.below (below_alloc (Below.refl _ _) (.cells #[.int .i64 0, .slice A7 0 c7] 32)))
  clear HX70 HB70
  go_wp2_with fail
  refine (set_pool a _ pp lp dp _ 2 (0) _ [] _ ((HS.out.below (below_step HBA.out HB7.out)).k kn (by decide)) HX7.out (P2.nil _ _) (Nat.zero_le _)).mono ?_
  rintro e w8 ⟨rfl, hx, hf⟩
  rw [setE_none] at hx ⊢
  rw [show ∀ S, errv a ((S, some 1) : PSys × Option Nat).2 = .iface 163 (.pointer (some (a 1))) from fun _ => rfl]
  have HX8 := Aside0.mk (sys_keep HB7.out hx)
  have HB8 := Aside0.mk (frm_below HB7.out hf HB7.out.size)
  have HAT8 := Aside0.mk (HAT7.out.frm hf (by decide))
  clear hx hf
  go_wp2_with fail
  refine (get_pool a _ pp lp dp _ 2 0 _ ((HS.out.below (below_step HBA.out HB8.out)).k kn (by decide)) (out_of ((HS.out.below HBA.out).k kn (by decide))) HX8.out (dE_loose v) (by decide) (by decide)).mono ?_
  rintro e w9 ⟨sl, ev9, rfl, hp, hv9, hx, hf⟩
  rw [getE_two] at hp hv9 hx ⊢
  have HX90 := Aside0.mk (sys_keep HB8.out hx)
  have HB90 := Aside0.mk (frm_below HB8.out hf HB8.out.size)
  have HAT90 := Aside0.mk (HAT8.out.frm hf (by decide))
  obtain ⟨A9, c9, rfl, _⟩ := ow_slice hp.1
  clear hp hx hf
  have hev : ev9 = .nilIface := hv9
  subst hev
  simp only [List.length_nil]
  have HX9 := Aside0.mk (HX90.out.below (below_alloc (Below.refl _ _) (.cells #[.int .i64 0, .slice A9 0 c9] 32)))
  have HB9 := Aside0.mk (below_alloc HB90.out (.cells #[.int .i64 0, .slice A9 0 c9] 32))
  have HAT9 := Aside0.mk (HAT90.out.below (below_alloc (Below.refl _ _) (.cells #[.int .i64 0, .slice A9 0 c9] 32)))
  clear HX90 HB90
  go_wp2_with fail
  refine (set_pool a _ pp lp dp _ 2 (-1) _ [] _ ((HS.out.below (below_step HBA.out HB9.out)).k kn (by decide)) HX9.out (P2.nil _ _) (Nat.zero_le _)).mono ?_
  rintro e w10 ⟨rfl, hx, hf⟩
  rw [setE_bad] at hx ⊢
  rw [show ∀ S, errv a ((S, some 1) : PSys × Option Nat).2 = .iface 163 (.pointer (some (a 1))) from fun _ => rfl]
  have HX10 := Aside0.mk (sys_keep HB9.out hx)
  have HB10 := Aside0.mk (frm_below HB9.out hf HB9.out.size)
  have HAT10 := Aside0.mk (HAT9.out.frm hf (by decide))
  clear hx hf
  go_wp2_with fail
  refine (set_pool a _ pp lp dp _ 2 (3) _ [] _ ((HS.out.below (below_step HBA.out HB10.out)).k kn (by decide)) HX10.out (P2.nil _ _) (Nat.zero_le _)).mono ?_
  rintro e w11 ⟨rfl, hx, hf⟩
  rw [setE_ok] at hx ⊢
  rw [show ∀ S, errv a ((S, none) : PSys × Option Nat).2 = .nilIface from fun _ => rfl]
  have HX11 := Aside0.mk (sys_keep HB10.out hx)
  have HB11 := Aside0.mk (frm_below HB10.out hf HB10.out.size)
  have HAT11 := Aside0.mk (HAT10.out.frm hf (by decide))
  clear hx hf
  go_wp2_with fail
  refine (is_calls a _ 102 (.inr ⟨1, by decide, rfl, rfl⟩) 102 _ (HS.out.below (below_step HBA.out HB11.out))).mono ?_
  rintro e w12 ⟨rfl, hb⟩
  rw [show ((102 : Int) == 102) = true from rfl]
  have HX12 := Aside0.mk (HX11.out.below hb)
  have HB12 := Aside0.mk (below_step HB11.out hb)
  have HAT12 := Aside0.mk (HAT11.out.below hb)
  clear hb
  go_wp2_with fail
  refine (is_calls a _ 102 (.inr ⟨1, by decide, rfl, rfl⟩) 102 _ (HS.out.below (below_step HBA.out HB12.out))).mono ?_
  rintro e w13 ⟨rfl, hb⟩
  rw [show ((102 : Int) == 102) = true from rfl]
  have HX13 := Aside0.mk (HX12.out.below hb)
  have HB13 := Aside0.mk (below_step HB12.out hb)
  have HAT13 := Aside0.mk (HAT12.out.below hb)
  clear hb
  go_wp2_with fail
  refine (placed_calls 107 4 (by decide) _).mono ?_
  rintro e w14 ⟨rfl, hb⟩
  have HX14 := Aside0.mk (HX13.out.below hb)
  have HB14 := Aside0.mk (below_step HB13.out hb)
  have HAT14 := Aside0.mk (HAT13.out.below hb)
  clear hb
  go_wp2_with fail
  refine (same_at a 4 6 _ (by decide) 107 true 4 _ (HS.out.below (below_step HBA.out HB14.out)) HAT14.out).mono ?_
  rintro e w15 ⟨rfl, hb⟩
  rw [show ((101 + ((6 : Nat) : Int)) == 107 && true == true && (4 : Int) == 4) = true from rfl]
  have HX15 := Aside0.mk (HX14.out.below hb)
  have HB15 := Aside0.mk (below_step HB14.out hb)
  clear hb
  go_wp2_with fail
  refine (is_calls a _ 102 (.inr ⟨1, by decide, rfl, rfl⟩) 102 _ (HS.out.below (below_step HBA.out HB15.out))).mono ?_
  rintro e w16 ⟨rfl, hb⟩
  rw [show ((102 : Int) == 102) = true from rfl]
  have HX16 := Aside0.mk (HX15.out.below hb)
  have HB16 := Aside0.mk (below_step HB15.out hb)
  clear hb
  go_wp2_with fail
  refine (is_calls a _ 102 (.inr ⟨1, by decide, rfl, rfl⟩) 102 _ (HS.out.below (below_step HBA.out HB16.out))).mono ?_
  rintro e w17 ⟨rfl, hb⟩
  rw [show ((102 : Int) == 102) = true from rfl]
  have HX17 := Aside0.mk (HX16.out.below hb)
  have HB17 := Aside0.mk (below_step HB16.out hb)
  clear hb
  go_wp2_with fail
  refine (here_pool HX17.out).mono ?_
  rintro e w18 ⟨v18, rfl, h18, hb⟩
  obtain ⟨A18, c18, rfl, _⟩ := ow_slice h18
  rw [show ((sE2 v).here.map (·.n)).length = 1 from rfl]
  have HB18 := Aside0.mk (below_step HB17.out hb)
  clear h18 hb
  go_wp2_with fail
  go_ret
  exact ⟨rfl, below_step HBA.out HB18.out⟩

theorem u8_bounds {n : Int} (h : (Lit.int .u8 n).wf = true) : 0 ≤ n ∧ n ≤ 255 := by
  simpa [Lit.wf, IntKind.min, IntKind.max, IntKind.signed, IntKind.bits] using h
theorem errors_said (a0 a1 : Int) (hw : (Lit.int .u8 a1).wf = true) (a : Nat → Addr) (w : World) (hs : SentsK (List.range 18) w a) :
    Calls Tryd.prog 4 #[.int .i64 a0, .int .u8 a1] w fun e w' => e = .returned (.bool true) ∧ Below w.heap.size w w' :=
  errors_calls a0 a1 (u8_bounds hw).1 (by have := (u8_bounds hw).2; omega) a w hs.all

end Go.Proofs.YtlgpkbhajloajaaDoor.WalkPoolErrors
