/- Joined texts: CkptN, CkptB, CkptR, CkptP. No condition but what each says. -/
import Derived.Test.YtaplpeoikebedaaGreatDoorV31
import Derived.Test.YtaplpeoikebedaaGreatDoorV35
set_option maxHeartbeats 8000000
set_option maxRecDepth 100000
set_option linter.unusedVariables false
set_option linter.unusedSimpArgs false
namespace Go.Proofs.YtaplpeoikebedaaGreatDoor.CkptN
open Go.RowKit Go.Maps YtaplpeoikebedaaGreatDoorW.PrintWords YtaplpeoikebedaaGreatDoorW.PrintLast YtaplpeoikebedaaGreatDoorW.PrintMore
open See Mem Page Disk DiskN RecD Pool2 Pool3 Wal Fresh SysD SysM StoreD StoreF StoreI StoreJ RoomD TransT LockT LockU SpaceT WaitT FwdM FwdP FwdC FwdN FwdO FwdB FwdG First17 RefN BackM BackV BackM BackN RefN RefM MasC CkptM CkptK
attribute [local go_sem] max2_imax min2_imin max_two min_two
def MadePost19 (P blocks frames sess : Int) (w : World) (e : Ending) (w' : World) : Prop :=
  ∃ cp bp bm sp lp pp dp qp mp q, e = .returned (.tuple #[.pointer (some ⟨cp, 0, none⟩), .pointer (some ⟨q, 0, none⟩), .pointer (some ⟨dp, 0, none⟩)]) ∧ CkM (fun k => w.heap.size ≤ k) w' cp bp bm sp lp pp dp qp mp blocks frames (newB (newF P blocks frames sess)) ⟨1, 0, 1, 0, P, blocks, frames⟩ ∧ Below w.heap.size w w'
theorem made19_calls (P blocks frames sess : Int) (h1 : 1 ≤ P ∧ P ≤ 32) (h2 : 1 ≤ blocks ∧ blocks ≤ 100) (h3 : 1 ≤ frames ∧ frames ≤ 8) (w : World) :
    Calls Tryz.prog 40 #[.agg #[.int .i64 P, .int .i64 blocks, .int .i64 frames, .int .i64 sess]] w (MadePost19 P blocks frames sess w) := by
  obtain ⟨n1, hn1⟩ : ∃ n, 1 + P = n := ⟨_, rfl⟩
  obtain ⟨n2, hn2⟩ : ∃ n, n1 + blocks = n := ⟨_, rfl⟩
  obtain ⟨n3, hn3⟩ : ∃ n, P + 1 = n := ⟨_, rfl⟩
  have e1 : IntKind.i64.wrap (1 + P) = n1 := by rw [IntKind.wrap_i64]; omega
  have e2 : IntKind.i64.wrap (n1 + blocks) = n2 := by rw [IntKind.wrap_i64]; omega
  have e3 : IntKind.i64.wrap (P + 1) = n3 := by rw [IntKind.wrap_i64]; omega
  have HN2 := Aside0.mk (show secsN n2 = (1 + P + blocks).toNat from by unfold secsN; rw [imax_eq, imin_eq]; omega)
  have HN3 := Aside0.mk hn3
  have HFR := Aside0.mk (show imin (imax frames 1) 8 = frames by rw [imax_eq, imin_eq]; omega)
  have H123 := Aside0.mk (And.intro h1 (And.intro h2 h3))
  clear h1 h2 h3 hn1 hn2 hn3
  go_enter Tryz.func40, Tryz.ntmps40
  go_wp2_with fail
  refine (new_disk n2 _).mono ?_
  rintro e w0 ⟨dp, rfl, hd, hb⟩
  have HCF0 := Aside0.mk (show w0.heap[w.heap.size]? = some (.cells #[.int .i64 P, .int .i64 blocks, .int .i64 frames, .int .i64 sess] 31 (0, 0)) from (hb.block w.heap.size (by show _ < (w.heap.push _).size; rw [Array.size_push]; omega)).trans (heap_alloc_new w _))
  rw [HN2.out] at hd
  have HD0 := Aside0.mk hd
  have HB0 := Aside0.mk (below_step (below_alloc (Below.refl w.heap.size w) _) hb)
  clear hd hb
  go_wp2_with fail
  refine (rdisk_calls n2 w0).mono ?_
  rintro e w1 ⟨rd, rfl, hb⟩
  have HB := Aside0.mk (below_step HB0.out hb)
  have HD := Aside0.mk (HD0.out.below hb)
  have HCF1 := Aside0.mk (cfg_keep HCF0.out hb)
  have hs1 : w.heap.size ≤ w1.heap.size := HB.out.size
  clear hb
  obtain ⟨c0, c1, c2, c3⟩ := cfg_cells HCF1.out
  have hl1 := heap_lt HCF1.out
  go_wp2_with fail
  refine (new_log dp n3 blocks 0 1 _).mono ?_
  rintro e w2 ⟨rfl, hw2⟩
  have HW2 := Aside0.mk hw2
  have HB2 := Aside0.mk (show Below w1.heap.size w1 w2 by rw [hw2]; exact below_alloc (Below.refl _ _) _)
  have HCF2 := Aside0.mk (cfg_keep HCF1.out HB2.out)
  clear hw2 c0 c1 c2 c3 hl1
  obtain ⟨c0, c1, c2, c3⟩ := cfg_cells HCF2.out
  have hl1 := heap_lt HCF2.out
  go_wp2_with fail
  refine (rlog_calls rd n3 blocks 0 1 w2).mono ?_
  rintro e w3 ⟨rfl, hrl, hb⟩
  have HRL3 := Aside0.mk hrl
  have HB3 := Aside0.mk hb
  have HCF3 := Aside0.mk (cfg_keep HCF2.out hb)
  clear hrl hb c0 c1 c2 c3 hl1
  obtain ⟨c0, c1, c2, c3⟩ := cfg_cells HCF3.out
  have hl1 := heap_lt HCF3.out
  go_wp2_with fail
  refine (new_pool dp _ frames _).mono ?_
  rintro e w4 ⟨rfl, hw4⟩
  have HW4 := Aside0.mk hw4
  rw [HFR.out] at HW4
  have HB4 := Aside0.mk (show Below w3.heap.size w3 w4 by rw [hw4]; exact below_alloc (Below.refl _ _) _)
  have HCF4 := Aside0.mk (cfg_keep HCF3.out HB4.out)
  clear hw4 c0 c1 c2 c3 hl1
  have HX := Aside0.mk (show SysM (fun k => w.heap.size ≤ k) w4 w3.heap.size w1.heap.size dp (newF P blocks frames sess).S by
    have hs1 := HB.out.size
    have hs2 := HB2.out.size
    have hs3 := HB3.out.size
    have hp4 : w4.heap[w3.heap.size]? = some (.cells (poolCells (.slice none 0 0) dp w1.heap.size frames (.slice none 0 0)) 163 (0, 0)) := by rw [HW4.out]; exact heap_alloc_new _ _
    have hl2 : w2.heap[w1.heap.size]? = some (.cells (logCells dp n3 blocks 0 1 (.slice none 0 0) 0) 121 (0, 0)) := by rw [HW2.out]; exact heap_alloc_new _ _
    have hl4 := cfg_keep (cfg_keep hl2 HB3.out) HB4.out
    have := H123.out
    rw [← HN3.out] at hl4
    exact sys0_mem ((((HD.out.mono fun k hk => by
      have : (w.alloc (.cells #[.int .i64 P, .int .i64 blocks, .int .i64 frames, .int .i64 sess] 31)).heap.size = w.heap.size + 1 := by show (w.heap.push _).size = _; rw [Array.size_push]
      have hk2 : (w.alloc (.cells #[.int .i64 P, .int .i64 blocks, .int .i64 frames, .int .i64 sess] 31)).heap.size ≤ k := hk
      show w.heap.size ≤ k
      omega).below HB2.out).below HB3.out).below HB4.out) hl4 hp4 (by omega) (by omega) (by omega) (by omega) (by omega))
  obtain ⟨c0, c1, c2, c3⟩ := cfg_cells HCF4.out
  have hl1 := heap_lt HCF4.out
  have HB40 := Aside0.mk (below_step (below_step (below_step HB.out HB2.out) HB3.out) HB4.out)
  have HROOM := Aside0.mk (show (newF P blocks frames sess).S.l.room = blocks * 6 from by
    have := H123.out
    have e : (newF P blocks frames sess).S.l.room = max (min (blocks * 6 - 0) (1073741824 - (0 + 0))) 0 := rfl
    rw [e]; omega)
  go_wp2_with fail
  refine (new_calls _ w1.heap.size w3.heap.size dp (newF P blocks frames sess).S P blocks frames sess 0 _ HX.out (by rw [HROOM.out]; have := H123.out; omega) (Int.le_refl 0)).mono ?_
  rintro e w5 ⟨sp, qp, mp, rfl, hf, hb⟩
  rw [HROOM.out] at hf
  have HF := Aside0.mk (show FwM (fun k => w.heap.size ≤ k) w5 sp w1.heap.size w3.heap.size dp qp mp blocks frames (newF P blocks frames sess) from fw_up HB40.out hf)
  have HB5 := Aside0.mk (below_step HB40.out hb)
  have HCF5 := Aside0.mk (cfg_keep HCF4.out hb)
  have HRL5 := Aside0.mk (cfg_keep (cfg_keep HRL3.out HB4.out) hb)
  clear hf hb c0 c1 c2 c3 hl1
  obtain ⟨c0, c1, c2, c3⟩ := cfg_cells HCF5.out
  have hl1 := heap_lt HCF5.out
  go_wp2_with fail
  refine (bnew_calls w.heap.size sp w1.heap.size w3.heap.size dp qp mp blocks frames (newF P blocks frames sess) w5 HF.out HB5.out.size).mono ?_
  rintro e w6 ⟨bp, bm, rfl, hbk, hba⟩
  have HBK6 := Aside0.mk hbk
  have HB6 := Aside0.mk (below_step HB5.out hba)
  have HCF6 := Aside0.mk (cfg_keep HCF5.out hba)
  have HRL6 := Aside0.mk (cfg_keep HRL5.out hba)
  clear hbk hba c0 c1 c2 c3 hl1 HX HROOM HD HD0 HW2 HW4 HB0 HB HB2 HB3 HB4 HB40 HCF0 HCF1 HCF2 HCF3 HCF4 HCF5 HRL3 HRL5 HN2 HFR HF HB5
  obtain ⟨c0, c1, c2, c3⟩ := cfg_cells HCF6.out
  have hl1 := heap_lt HCF6.out
  obtain ⟨W7, hW7⟩ : ∃ W, w6.alloc (.cells #[.int .i64 1, .int .i64 0, .int .i64 1, .int .i64 0, .int .i64 P, .int .i64 blocks, .int .i64 frames] 84) = W := ⟨_, rfl⟩
  have HWE := Aside0.mk hW7
  have HB67 := Aside0.mk (show Below w6.heap.size w6 W7 by rw [← hW7]; exact below_alloc (Below.refl _ _) _)
  have HM7 := Aside0.mk (show W7.heap[w6.heap.size]? = some (.cells #[.int .i64 1, .int .i64 0, .int .i64 1, .int .i64 0, .int .i64 P, .int .i64 blocks, .int .i64 frames] 84 (0, 0)) by rw [← hW7]; exact heap_alloc_new _ _)
  clear hW7
  go_upto_region 20 with fail
  rw [HWE.out]
  have HBK7 := Aside0.mk (HBK6.out.below HB67.out)
  have HB7 := Aside0.mk (below_step HB6.out HB67.out)
  have HCF7 := Aside0.mk (cfg_keep HCF6.out HB67.out)
  have HRL7 := Aside0.mk (cfg_keep HRL6.out HB67.out)
  clear HBK6 HB6 HCF6 HRL6 HB67 HWE c0 c1 c2 c3 hl1
  have HNEW := Aside0.mk (fun (V : World) => (show Calls Tryz.prog 94 #[.pointer (some ⟨bp, 0, none⟩), .pointer (some ⟨dp, 0, none⟩), .agg #[.int .i64 1, .int .i64 0, .int .i64 1, .int .i64 0, .int .i64 P, .int .i64 blocks, .int .i64 frames]] V fun e w' => ∃ cp, e = .returned (.pointer (some ⟨cp, 0, none⟩)) ∧ V.heap.size ≤ cp ∧ w'.heap[cp]? = some (.cells (ckCells bp dp ⟨1, 0, 1, 0, P, blocks, frames⟩) 86 (0, 0)) ∧ Below V.heap.size V w' from cknew_calls 0 bp dp ⟨1, 0, 1, 0, P, blocks, frames⟩ V))
  have HNP := Aside0.mk (fun (V : World) => (rpool_calls rd w2.heap.size frames V).mono (fun e w' hh => (⟨_, hh.1, hh.2⟩ : ∃ q, e = .returned (.pointer (some ⟨q, 0, none⟩)) ∧ Below V.heap.size V w')))
  have HRN := Aside0.mk (fun (q : Nat) (V : World) (hb : Below W7.heap.size W7 V) => rnew2_calls 1 0 1 0 P blocks frames P blocks frames sess rd q (.pointer (some ⟨w2.heap.size, 0, none⟩)) (.agg #[.int .i64 1, .int .i64 0, .int .i64 1, .int .i64 0, .int .i64 P, .int .i64 blocks, .int .i64 frames]) w2.heap.size V rfl rfl (by have := H123.out; omega) (cellx (cfg_keep HRL7.out hb) rfl).1 (cellx (cfg_keep HRL7.out hb) rfl).1 (cellx (cfg_keep HRL7.out hb) rfl).1)
  have HCK := Aside0.mk (fun (V : World) (hb : Below W7.heap.size W7 V) => And.intro (cfg_cells (cfg_keep HCF7.out hb)) (mas7g (cfg_keep HM7.out hb)))
  obtain ⟨⟨c0, c1, c2, c3⟩, ⟨m0, m1, m2, m3, m4, m5, m6⟩⟩ := HCK.out W7 (Below.refl _ _)
  have hl1 := heap_lt HCF7.out
  have hl2 := heap_lt HM7.out
  go_cut [2, 3, 4] (fun v2 v3 v4 wx => v4 = .pointer (some ⟨dp, 0, none⟩) ∧ ∃ cp q, v2 = .pointer (some ⟨cp, 0, none⟩) ∧ v3 = .pointer (some ⟨q, 0, none⟩) ∧ Aside0 (W7.heap.size ≤ cp) ∧ Aside0 (wx.heap[cp]? = some (.cells (ckCells bp dp ⟨1, 0, 1, 0, P, blocks, frames⟩) 86 (0, 0))) ∧ Aside0 (Below W7.heap.size W7 wx))
  case first =>
    go_region_held3 (fun w' => w'.cell? ⟨w.heap.size, 0, none⟩ = some (.int .i64 P) ∧ w'.cell? ⟨w.heap.size, 1, none⟩ = some (.int .i64 blocks) ∧ w'.cell? ⟨w.heap.size, 2, none⟩ = some (.int .i64 frames) ∧ w'.cell? ⟨w.heap.size, 3, none⟩ = some (.int .i64 sess) ∧ w'.cell? ⟨w6.heap.size, 0, none⟩ = some (.int .i64 1) ∧ w'.cell? ⟨w6.heap.size, 1, none⟩ = some (.int .i64 0) ∧ w'.cell? ⟨w6.heap.size, 2, none⟩ = some (.int .i64 1) ∧ w'.cell? ⟨w6.heap.size, 3, none⟩ = some (.int .i64 0) ∧ w'.cell? ⟨w6.heap.size, 4, none⟩ = some (.int .i64 P) ∧ w'.cell? ⟨w6.heap.size, 5, none⟩ = some (.int .i64 blocks) ∧ w'.cell? ⟨w6.heap.size, 6, none⟩ = some (.int .i64 frames))
      (first | exact ⟨c0, c1, c2, c3, m0, m1, m2, m3, m4, m5, m6⟩ | exact ⟨hka.1, hka.2.1, hka.2.2.1, hka.2.2.2, hma⟩ | exact ⟨hkb.1, hkb.2.1, hkb.2.2.1, hkb.2.2.2, hmb⟩ | exact ⟨hkc.1, hkc.2.1, hkc.2.2.1, hkc.2.2.2, hmc⟩ | go_keep)
      (first
        | (go_at_call 94; refine (HNEW.out _).mono ?_; rintro e wa ⟨cp, rfl, hcp, hch, hba⟩; have hqa : Below W7.heap.size W7 wa := below_step (by repeat (first | exact hqc | exact hqb | exact Below.refl _ _ | apply below_drew1)) hba; obtain ⟨hka, hma⟩ := HCK.out wa hqa)
        | (go_at_call 84; refine (HNP.out _).mono ?_; rintro e wb ⟨q1, rfl, hbb⟩; have hqb : Below W7.heap.size W7 wb := below_step (by repeat (first | exact hqa | exact Below.refl _ _ | apply below_drew1)) hbb; obtain ⟨hkb, hmb⟩ := HCK.out wb hqb)
        | (go_at_call 83; refine (HRN.out q1 _ ?hb).mono ?_; (case hb => repeat (first | exact hqa | exact hqb | apply below_drew1)); rintro e wc ⟨q2, rfl, hbc⟩; have hqc : Below W7.heap.size W7 wc := below_step (by repeat (first | exact hqa | exact hqb | apply below_drew1)) hbc; obtain ⟨hkc, hmc⟩ := HCK.out wc hqc))
    go_wp2_with fail
    go_meet
    exact ⟨rfl, cp, q2, rfl, rfl, ⟨hcp⟩, ⟨((below_step hbb hbc).block _ (heap_lt hch)).trans hch⟩, ⟨hqc⟩⟩
  case rest =>
    obtain ⟨rfl, cp, q, rfl, rfl, HCP, HCH, HBX⟩ := hcut
    generalize wc = Z at HCH HBX ⊢
    have HBZ := Aside0.mk (below_step HB7.out HBX.out)
    have HCKM := Aside0.mk (show CkM (fun k => w.heap.size ≤ k) Z cp bp bm sp w1.heap.size w3.heap.size dp qp mp blocks frames (newB (newF P blocks frames sess)) ⟨1, 0, 1, 0, P, blocks, frames⟩ from ⟨Cut (fun k => w.heap.size ≤ k) W7.heap.size, HCH.out, (HBK7.out.cut).below HBX.out, fun k hk => ⟨hk.1, by have := hk.2; have := HCP.out; omega⟩, by have := HCP.out; have := HB7.out.size; show w.heap.size ≤ cp; omega⟩)
    go_wp2_with fail
    exact bodyPost_ret (v := .tuple #[.pointer (some ⟨cp, 0, none⟩), .pointer (some ⟨q, 0, none⟩), .pointer (some ⟨dp, 0, none⟩)]) (by simp [results, Tryz.results40, go_sem]) rfl ⟨cp, bp, bm, sp, _, _, dp, qp, mp, q, rfl, HCKM.out, HBZ.out⟩
end Go.Proofs.YtaplpeoikebedaaGreatDoor.CkptN
namespace Go.Proofs.YtaplpeoikebedaaGreatDoor.CkptB
open Go.RowKit Go.Maps YtaplpeoikebedaaGreatDoorW.PrintWords YtaplpeoikebedaaGreatDoorW.PrintLast YtaplpeoikebedaaGreatDoorW.PrintMore
open See Mem Page Disk DiskW RecD Wal Pool2 SysD SysM StoreD StoreF TransT SpaceT FwdM FwdP BackM BackU MasC CkptM
attribute [local go_sem] max2_imax min2_imin max_two min_two
theorem reset_busy (a : Nat → Addr) (M : Nat → Prop) (cp bp bm sp lp pp dp qp mp : Nat) (blocks frames : Int) (B : BSt) (m : Mst) (w : World) (h : CkM M w cp bp bm sp lp pp dp qp mp blocks frames B m) (hts : B.F.ts ≠ []) (hs : SentsAll w a) :
    Calls Tryz.prog 54 #[.pointer (some ⟨cp, 0, none⟩)] w fun e w' => e = .returned (errv a (some 15)) ∧ Below w.heap.size w w' := by
  obtain ⟨R, h⟩ := h
  obtain ⟨Rb, sl, hb⟩ := h.b
  obtain ⟨k0, _⟩ := h.cells
  obtain ⟨b0, _⟩ := hb.cells
  have hcl := heap_lt h.box
  have hbl := heap_lt hb.box
  obtain ⟨nt, hnt⟩ : ∃ n, B.F.ts.length = n := ⟨_, rfl⟩
  have HNT := Aside0.mk hnt
  have hnt0 : 0 < nt := by
    rw [← hnt]
    exact List.length_pos_iff.2 hts
  have HS := Aside0.mk hs
  have HF := Aside0.mk hb.f
  have HP := Aside0.mk (parts_calls Rb sp lp pp dp qp mp blocks frames B.F w hb.f)
  clear h hb hs hts hnt
  go_enter Tryz.func54, Tryz.ntmps54
  go_wp2_with fail
  refine HP.out.mono ?_
  rintro e w1 ⟨rfl, hb1⟩
  have HB1 := Aside0.mk hb1
  have HAL := Aside0.mk (show Calls Tryz.prog 79 #[.pointer (some ⟨sp, 8, none⟩)] w1 fun e w' => ∃ A c, e = .returned (.slice A nt c) ∧ Below w1.heap.size w1 w' from by
    obtain ⟨kv, tv, q1, q2, q3, q4, q5⟩ := (HF.out.below hb1).box
    refine (tall_calls sp 8 tv B.F.ts w1 q4 (by simp [World.cell?, q1, fwCells])).mono ?_
    rintro e w' ⟨v, rfl, hv, hb⟩
    obtain ⟨A, c, rfl, _⟩ := ow_slice hv.1
    rw [HNT.out]
    exact ⟨A, c, rfl, hb⟩)
  clear hb1 k0 b0 hcl hbl
  go_wp2_with fail
  refine HAL.out.mono ?_
  rintro e w2 ⟨A, c, rfl, hb2⟩
  have HB2 := Aside0.mk (below_step HB1.out hb2)
  have hg : w2.cell? ⟨11, 0, none⟩ = some (.iface 333 (.pointer (some (a 15)))) := (HS.out.below HB2.out).cell 15 (by decide)
  have hgl : 11 < w2.heap.size := World.block_lt_of_cell? _ _ hg
  clear hb2 HAL
  go_wp2_with fail
  go_ret
  exact ⟨rfl, HB2.out⟩
end Go.Proofs.YtaplpeoikebedaaGreatDoor.CkptB
namespace Go.Proofs.YtaplpeoikebedaaGreatDoor.CkptR
open Go.RowKit Go.Maps YtaplpeoikebedaaGreatDoorW.PrintWords YtaplpeoikebedaaGreatDoorW.PrintLast YtaplpeoikebedaaGreatDoorW.PrintMore
open See Mem Page PageR Disk DiskW RecD Rec BlockB Wal Pool2 StoreD TransT
attribute [local go_sem] max2_imax min2_imin max_two min_two
def ckB : RecV := ⟨7, 0, 0, 0, 0, 0, false, false, 0, 0⟩
def ckT (t : Tx) : RecV := ⟨8, t.id, 0, t.last, t.next, t.state, false, false, 0, 0⟩
def ckP (d : Int × Int) : RecV := ⟨9, 0, d.1, d.2, 0, 0, false, false, 0, 0⟩
def ckE (most : Int) : RecV := ⟨10, 0, 0, 0, most, 0, false, false, 0, 0⟩
def recsL (most : Int) (ts : List Tx) (ds : List (Int × Int)) : List RecV := ckB :: ts.map ckT ++ ds.map ckP ++ [ckE most]
def RS (w : World) (b : Nat) (v : Value) (l : List RecV) : Prop := w.ownsRow b 46 10 v l.length (recCells l)
theorem RS.below {w w' : World} {b : Nat} {v : Value} {l : List RecV} (h : RS w b v l) (hb : Below w.heap.size w w') : RS w' b v l := ow_below h hb
theorem recL_one (r : RecV) : ∀ u ∈ recL r, u.oneCell' = true := fun u hu => recCells_one [r] u (by simpa [recCells] using hu)
theorem ow_fresh {W : World} {b base e : Nat} {r : RecV} (h : W.heap[b]? = some (.cells (recA r) e (0, 0))) (hb : base ≤ b) : W.ownsRow base e 10 (.slice (some ⟨b, 0, none⟩) 1 1) 1 (recL r) :=
  ⟨rfl, .inr ⟨b, 1, recA r, rfl, hb, h, Nat.le_refl _, by decide, rfl, rfl⟩⟩
theorem rs_push {w : World} {b : Nat} {v : Value} {n : Nat} {l : List RecV} {r : RecV} (hn : l.length = n) (h : w.ownsRow b 46 10 v (n + 1) (recCells l ++ recL r)) : RS w b v (l ++ [r]) := by
  unfold RS
  rw [List.length_append, recCells_append, hn]
  have e : recCells [r] = recL r := by simp [recCells]
  rw [e]
  exact h
theorem take_push {α : Type} {l : List α} {i : Nat} {x : α} (h : l[i]? = some x) : l.take (i + 1) = l.take i ++ [x] := by
  obtain ⟨h1, h2⟩ := List.getElem?_eq_some_iff.1 h
  rw [List.take_succ_eq_append_getElem h1, h2]
theorem p2_at {w : World} {t : Nat} {A : Option Addr} {l cap : Nat} {es : List (Int × Int)} (h : P2 w t (.slice A l cap) es) {i : Nat} {f : Int × Int} (hi : es[i]? = some f) :
    ∃ g, A = some ⟨g, 0, none⟩ ∧ l = es.length ∧ w.cell? ⟨g, i * 2, none⟩ = some (.int .i64 f.1) ∧ w.cell? ⟨g, i * 2 + 1, none⟩ = some (.int .i64 f.2) := by
  rcases h.form with ⟨_, h0⟩ | ⟨g, c, hv, hc⟩
  · rw [h0] at hi; cases hi
  · injection hv with h1 h2 h3
    subst h1 h2
    obtain ⟨a1, a2⟩ := hc.1 i f hi
    exact ⟨g, rfl, rfl, a1, a2⟩
theorem tr_at {w : World} {A : Option Addr} {l cap : Nat} {ts : List Tx} (h : TR w (.slice A l cap) ts) {i : Nat} {t : Tx} (hi : ts[i]? = some t) :
    ∃ g, A = some ⟨g, 0, none⟩ ∧ l = ts.length ∧ (w.cell? ⟨g, i * 4, none⟩ = some (.int .i64 t.id) ∧ w.cell? ⟨g, i * 4 + 1, none⟩ = some (.int .i64 t.state) ∧ w.cell? ⟨g, i * 4 + 2, none⟩ = some (.int .i64 t.last) ∧ w.cell? ⟨g, i * 4 + 3, none⟩ = some (.int .i64 t.next)) := by
  rcases h.form with ⟨_, h0⟩ | ⟨g, c, hv, hc, _⟩
  · rw [h0] at hi; cases hi
  · injection hv with h1 h2 h3
    subst h1 h2
    exact ⟨g, rfl, rfl, hc i t hi⟩
theorem records_calls (most : Int) (vt vd : Value) (ts : List Tx) (ds : List (Int × Int)) (w : World) (ht : TR w vt ts) (hd : P2 w 288 vd ds) (h1 : ts.length ≤ 10000) (h2 : ds.length ≤ 10000) :
    Calls Tryz.prog 150 #[.int .i64 most, vt, vd] w fun e w' => ∃ v, e = .returned v ∧ RS w' w.heap.size v (recsL most ts ds) ∧ Below w.heap.size w w' := by
  obtain ⟨i0, hi, hzz⟩ := Option.map_eq_some_iff.1 info_rec
  simp only [Prod.mk.injEq] at hzz
  obtain ⟨hz0, hz1, hz2⟩ := hzz
  have HI0 := Aside0.mk (And.intro hi (And.intro hz0 (And.intro hz1 hz2)))
  obtain ⟨A, cap, rfl, _⟩ := ow_slice ht.1
  obtain ⟨D, dap, rfl, _⟩ := ow_slice hd.1
  obtain ⟨nt, hnt⟩ : ∃ n, ts.length = n := ⟨_, rfl⟩
  obtain ⟨nd, hnd⟩ : ∃ n, ds.length = n := ⟨_, rfl⟩
  have HT := Aside0.mk ht
  have HD := Aside0.mk hd
  have HNT := Aside0.mk hnt
  have HND := Aside0.mk hnd
  rw [hnt] at h1 ⊢
  rw [hnd] at h2 ⊢
  clear hi hz0 hz1 hz2 ht hd hnt hnd
  go_enter Tryz.func150, Tryz.ntmps150
  go_wp2_with fail
  have HR0 := Aside0.mk (show RS (w.alloc (.cells (recA ckB) 46)) w.heap.size (.slice (some ⟨w.heap.size, 0, none⟩) 1 1) (ckB :: (ts.take 0).map ckT) from ow_fresh (heap_alloc_new w _) (Nat.le_refl _))
  go_loopg [7, 16] (nt + 1) (fun kq v7 v16 w' => ∃ (i : Int) (sl : Value), v7 = sl ∧ v16 = .int .i64 i ∧ Aside0 (0 ≤ i ∧ i ≤ nt ∧ (kq : Int) = nt + 1 - i) ∧ Aside0 (RS w' w.heap.size sl (ckB :: (ts.take i.toNat).map ckT)) ∧ Aside0 (Below w.heap.size w w'))
  case atStart => exact ⟨0, _, rfl, rfl, ⟨by omega, by omega, by omega⟩, HR0, ⟨below_alloc (Below.refl _ _) _⟩⟩
  case round =>
    clear HR0
    obtain ⟨i, sl, rfl, rfl, HI, HS, HB⟩ := hrel
    have hi0 : 0 ≤ i := HI.out.1
    by_cases hlt : i < nt
    · obtain ⟨f, hf⟩ : ∃ f, ts[i.toNat]? = some f := ⟨_, List.getElem?_eq_getElem (by have := HNT.out; omega)⟩
      obtain ⟨g, rfl, hll, hd0, hd1, hd2, hd3⟩ := tr_at (HT.out.below HB.out) hf
      have HW := Aside0.mk (show (ckB :: (ts.take i.toNat).map ckT) ++ [ckT f] = ckB :: (ts.take (i.toNat + 1)).map ckT from by rw [take_push hf]; simp)
      obtain ⟨xi, xs, xl, xn⟩ := f
      simp only at hd0 hd1 hd2 hd3
      obtain ⟨l, hl⟩ : ∃ l, ckB :: (ts.take i.toNat).map ckT = l := ⟨_, rfl⟩
      rw [hl] at HS HW
      obtain ⟨n, hn⟩ : ∃ n, l.length = n := ⟨_, rfl⟩
      have HNN := Aside0.mk hn
      have hn5 : n ≤ 100000 := by rw [← hn, ← hl]; simp; omega
      obtain ⟨oA, oc, hu7, _⟩ := ow_slice HS.out
      rw [hn] at hu7
      obtain ⟨hi, hz0, hz1, hz2⟩ := HI0.out
      clear hf hll hn hl
      subst hu7
      go_wp2_with (at_builtin; refine wpList_append_lies _ (by rfl) _ _ 119 (by rfl) w.heap.size 46 i0 (.agg #[.int .i64 0, .int .i64 0, .int .i64 0, .int .i64 0, .int .i64 0, .int .i64 0, .bool false, .bool false, .int .i64 0, .int .i64 0]) 10 72 Tryz.underlying119 hi hz0 hz1 hz2 rfl (by decide) _ n (recCells l) (by rfl) ?own ⟨wr.heap.size + 1, 0, none⟩ 1 1 (recL (ckT ⟨xi, xs, xl, xn⟩)) (by rfl) rfl ?news (recL_one _) (by decide) (len_ok hn5) ?by8 ?base (wr.heap.size + 2) ?hh ?_)
      case own => have := HS.out; unfold RS at this; rw [HNN.out] at this; exact ow_below this (by repeat (first | exact Below.refl _ _ | apply below_drew1 | apply below_alloc))
      case news => exact news10_at (wr.alloc _) _ (by simp) (ckT ⟨xi, xs, xl, xn⟩) _
      case by8 => omega
      case base => have := HB.out.size; simp; omega
      case hh => simp
      intro g2 cap2 w3 hown hgr hor hlt3
      have HO3 := Aside0.mk (rs_push HNN.out hown)
      rw [HW.out] at HO3
      have HB3 := Aside0.mk (show Below w.heap.size w w3 from (HB.out.trans (Below.mono (show Below wr.heap.size wr ((wr.alloc (.cells #[.int .i64 xi, .int .i64 xs, .int .i64 xl, .int .i64 xn] 102)).alloc (.cells (recA (ckT ⟨xi, xs, xl, xn⟩)) 46)) by repeat (first | exact Below.refl _ _ | apply below_drew1 | apply below_alloc)) HB.out.size)).grown (w := _) hgr (by have := HB.out.size; simp; omega) (fun k hk => by have h := HS.out; exact (ow_block h hk).1))
      clear hown hgr hor hlt3 hi hz0 hz1 hz2
      go_wp2_with fail
      go_roundg (gk - 1)
      case measure => have := HI.out; omega
      case rel => exact ⟨i + 1, _, rfl, rfl, ⟨by omega, by omega, by have := HI.out; omega⟩, ⟨by rw [show (i + 1).toNat = i.toNat + 1 from by omega]; exact HO3.out⟩, HB3⟩
    · have HS1 := Aside0.mk (show RS wr w.heap.size u7 ((ckB :: ts.map ckT) ++ (ds.take 0).map ckP) from by
        have := HS.out
        rw [List.take_of_length_le (by have := HNT.out; have := HI.out; omega)] at this
        simpa using this)
      clear HS
      go_wp2_with fail
      go_loopg [7, 35] (nd + 1) (fun kq v7 v35 w' => ∃ (i : Int) (sl : Value), v7 = sl ∧ v35 = .int .i64 i ∧ Aside0 (0 ≤ i ∧ i ≤ nd ∧ (kq : Int) = nd + 1 - i) ∧ Aside0 (RS w' w.heap.size sl ((ckB :: ts.map ckT) ++ (ds.take i.toNat).map ckP)) ∧ Aside0 (Below w.heap.size w w'))
      case atStart => exact ⟨0, _, rfl, rfl, ⟨by omega, by omega, by omega⟩, HS1, HB⟩
      case round =>
        clear HS1 HI
        obtain ⟨i, sl, rfl, rfl, HI, HS, HB⟩ := hrel
        have hi0 : 0 ≤ i := HI.out.1
        by_cases hlt : i < nd
        · obtain ⟨f, hf⟩ : ∃ f, ds[i.toNat]? = some f := ⟨_, List.getElem?_eq_getElem (by have := HND.out; omega)⟩
          obtain ⟨g, rfl, hll, hd0, hd1⟩ := p2_at (HD.out.below HB.out) hf
          have HW := Aside0.mk (show ((ckB :: ts.map ckT) ++ (ds.take i.toNat).map ckP) ++ [ckP f] = (ckB :: ts.map ckT) ++ (ds.take (i.toNat + 1)).map ckP from by rw [take_push hf]; simp)
          obtain ⟨xp, xf⟩ := f
          simp only at hd0 hd1
          obtain ⟨l, hl⟩ : ∃ l, (ckB :: ts.map ckT) ++ (ds.take i.toNat).map ckP = l := ⟨_, rfl⟩
          rw [hl] at HS HW
          obtain ⟨n, hn⟩ : ∃ n, l.length = n := ⟨_, rfl⟩
          have HNN := Aside0.mk hn
          have hn5 : n ≤ 100000 := by rw [← hn, ← hl]; have := HNT.out; simp; omega
          obtain ⟨oA, oc, hu7, _⟩ := ow_slice HS.out
          rw [hn] at hu7
          obtain ⟨hi, hz0, hz1, hz2⟩ := HI0.out
          clear hf hll hn hl
          subst hu7
          go_wp2_with (at_builtin; refine wpList_append_lies _ (by rfl) _ _ 119 (by rfl) w.heap.size 46 i0 (.agg #[.int .i64 0, .int .i64 0, .int .i64 0, .int .i64 0, .int .i64 0, .int .i64 0, .bool false, .bool false, .int .i64 0, .int .i64 0]) 10 72 Tryz.underlying119 hi hz0 hz1 hz2 rfl (by decide) _ n (recCells l) (by rfl) ?own ⟨wr.heap.size + 1, 0, none⟩ 1 1 (recL (ckP (xp, xf))) (by rfl) rfl ?news (recL_one _) (by decide) (len_ok hn5) ?by8 ?base (wr.heap.size + 2) ?hh ?_)
          case own => have := HS.out; unfold RS at this; rw [HNN.out] at this; exact ow_below this (by repeat (first | exact Below.refl _ _ | apply below_drew1 | apply below_alloc))
          case news => exact news10_at (wr.alloc _) _ (by simp) (ckP (xp, xf)) _
          case by8 => omega
          case base => have := HB.out.size; simp; omega
          case hh => simp
          intro g2 cap2 w3 hown hgr hor hlt3
          have HO3 := Aside0.mk (rs_push HNN.out hown)
          rw [HW.out] at HO3
          have HB3 := Aside0.mk (show Below w.heap.size w w3 from (HB.out.trans (Below.mono (show Below wr.heap.size wr ((wr.alloc (.cells #[.int .i64 xp, .int .i64 xf] 288)).alloc (.cells (recA (ckP (xp, xf))) 46)) by repeat (first | exact Below.refl _ _ | apply below_drew1 | apply below_alloc)) HB.out.size)).grown (w := _) hgr (by have := HB.out.size; simp; omega) (fun k hk => by have h := HS.out; exact (ow_block h hk).1))
          clear hown hgr hor hlt3 hi hz0 hz1 hz2
          go_wp2_with fail
          go_roundg (gk - 1)
          case measure => have := HI.out; omega
          case rel => exact ⟨i + 1, _, rfl, rfl, ⟨by omega, by omega, by have := HI.out; omega⟩, ⟨by rw [show (i + 1).toNat = i.toNat + 1 from by omega]; exact HO3.out⟩, HB3⟩
        · obtain ⟨l, hl⟩ : ∃ l, (ckB :: ts.map ckT) ++ ds.map ckP = l := ⟨_, rfl⟩
          have HL := Aside0.mk hl
          have HS1 := Aside0.mk (show RS wr w.heap.size u7 l from by
            have := HS.out
            rw [List.take_of_length_le (by have := HND.out; have := HI.out; omega)] at this
            rw [← hl]
            exact this)
          obtain ⟨n, hn⟩ : ∃ n, l.length = n := ⟨_, rfl⟩
          have HNN := Aside0.mk hn
          have hn5 : n ≤ 100000 := by rw [← hn, ← hl]; have := HNT.out; have := HND.out; simp; omega
          obtain ⟨oA, oc, hu7, _⟩ := ow_slice HS1.out
          rw [hn] at hu7
          obtain ⟨hi, hz0, hz1, hz2⟩ := HI0.out
          clear hn hl HS
          subst hu7
          go_wp2_with (at_builtin; refine wpList_append_lies _ (by rfl) _ _ 119 (by rfl) w.heap.size 46 i0 (.agg #[.int .i64 0, .int .i64 0, .int .i64 0, .int .i64 0, .int .i64 0, .int .i64 0, .bool false, .bool false, .int .i64 0, .int .i64 0]) 10 72 Tryz.underlying119 hi hz0 hz1 hz2 rfl (by decide) _ n (recCells l) (by rfl) ?own ⟨wr.heap.size, 0, none⟩ 1 1 (recL (ckE most)) (by rfl) rfl ?news (recL_one _) (by decide) (len_ok hn5) ?by8 ?base (wr.heap.size + 1) ?hh ?_)
          case own => have := HS1.out; unfold RS at this; rw [HNN.out] at this; exact ow_below this (by repeat (first | exact Below.refl _ _ | apply below_drew1 | apply below_alloc))
          case news => first | exact news10_at wr _ rfl (ckE most) _ | exact fun j u hj => hj
          case by8 => omega
          case base => have := HB.out.size; simp; omega
          intro g2 cap2 w3 hown hgr hor hlt3
          have HO3 := Aside0.mk (rs_push HNN.out hown)
          have HB3 := Aside0.mk (show Below w.heap.size w w3 from (HB.out.trans (Below.mono (show Below wr.heap.size wr (wr.alloc (.cells (recA (ckE most)) 46)) by repeat (first | exact Below.refl _ _ | apply below_drew1 | apply below_alloc)) HB.out.size)).grown (w := _) hgr (by have := HB.out.size; simp; omega) (fun k hk => by have h := HS1.out; exact (ow_block h hk).1))
          clear hown hgr hor hlt3 hi hz0 hz1 hz2
          go_wp2_with fail
          go_ret
          exact ⟨_, rfl, by
            have := HO3.out
            rw [← HL.out] at this
            exact this, HB3.out⟩
end Go.Proofs.YtaplpeoikebedaaGreatDoor.CkptR
namespace Go.Proofs.YtaplpeoikebedaaGreatDoor.CkptP
open Go.RowKit See Mem Page PageB PageR PageL Disk DiskW RecD BlockB Dirty Wal WalF SysD SysM FlushG Pager StoreD StoreF StoreG StoreI StoreK MasC MasT CkptK CkptR
theorem rs_at {w : World} {b : Nat} {A : Option Addr} {n c : Nat} {l : List RecV} (h : RS w b (.slice A n c) l) {i : Nat} {r : RecV} (hi : l[i]? = some r) :
    ∃ g, A = some ⟨g, 0, none⟩ ∧ b ≤ g ∧ n = l.length ∧ g < w.heap.size ∧ w.cell? ⟨g, i * 10, none⟩ = some (.int .i64 r.kind) ∧ w.cell? ⟨g, i * 10 + 1, none⟩ = some (.int .i64 r.txn) ∧ w.cell? ⟨g, i * 10 + 2, none⟩ = some (.int .i64 r.page) ∧ w.cell? ⟨g, i * 10 + 3, none⟩ = some (.int .i64 r.prev) ∧ w.cell? ⟨g, i * 10 + 4, none⟩ = some (.int .i64 r.next) ∧
      w.cell? ⟨g, i * 10 + 5, none⟩ = some (.int .i64 r.key) ∧ w.cell? ⟨g, i * 10 + 6, none⟩ = some (.bool r.had) ∧ w.cell? ⟨g, i * 10 + 7, none⟩ = some (.bool r.has) ∧ w.cell? ⟨g, i * 10 + 8, none⟩ = some (.int .i64 r.old) ∧ w.cell? ⟨g, i * 10 + 9, none⟩ = some (.int .i64 r.new) := by
  have hlt := (List.getElem?_eq_some_iff.1 hi).1
  rcases h.2 with ⟨hv, h0⟩ | ⟨g, cap, cur, hv, hg, hh, hnc, hcm, hsz, htk⟩
  · omega
  · injection hv with h1 h2 h3
    subst h1
    have key : ∀ j u, j < 10 → (recL r)[j]? = some u → w.cell? ⟨g, i * 10 + j, none⟩ = some u := fun j u hj hu => by
      have e := recCells_at l i r j hi hj
      rw [← htk, List.getElem?_take, if_pos (by omega), hu] at e
      simp only [World.cell?, hh]
      simpa using e
    exact ⟨g, rfl, hg, h2, heap_lt hh, key 0 _ (by omega) rfl, key 1 _ (by omega) rfl, key 2 _ (by omega) rfl, key 3 _ (by omega) rfl, key 4 _ (by omega) rfl, key 5 _ (by omega) rfl, key 6 _ (by omega) rfl, key 7 _ (by omega) rfl, key 8 _ (by omega) rfl, key 9 _ (by omega) rfl⟩
def addL (S : PSys) (rs : List RecV) : PSys := { S with l := { S.l with l := S.l.l ++ rs } }
theorem addL_nil (S : PSys) : addL S [] = S := by unfold addL; simp
theorem addL_push (S : PSys) (rs : List RecV) (r : RecV) : addL S (rs ++ [r]) = addRec (addL S rs) r := by unfold addL addRec; simp
theorem addL_ok {N m : Nat} {F : FS} (h : GOk N m F) {rs : List RecV} (hr : ∀ r ∈ rs, recOk r = true ∧ is64 r.old ∧ is64 r.new) (hroom : (rs.length : Int) ≤ F.S.l.room) : ∀ i : Nat, i ≤ rs.length → GOk N m { F with S := addL F.S (rs.take i), free := F.S.l.room - i, kept := 0 } ∧ (addL F.S (rs.take i)).l.room = F.S.l.room - i
  | 0, _ => by
    obtain ⟨ro1, ro2, ro3⟩ := h.room
    rw [List.take_zero, addL_nil]
    exact ⟨⟨h.pg, h.fit, h.lok, h.fuse, h.loose, h.lsn, h.six, h.p32, by push_cast; omega, Int.le_refl 0, by push_cast; show F.S.l.room - 0 + 0 = F.S.l.room; omega⟩, by push_cast; omega⟩
  | i + 1, hi => by
    obtain ⟨q, q2⟩ := addL_ok h hr hroom i (by omega)
    obtain ⟨r, hr2⟩ : ∃ r, rs[i]? = some r := ⟨_, List.getElem?_eq_getElem (by omega)⟩
    obtain ⟨o1, o2⟩ := hr r (List.mem_of_getElem? hr2)
    have ho := q.rec_ (fr := F.S.l.room - (i + 1 : Nat)) (kp := 0) o1 o2 (by show 1 ≤ (addL F.S (rs.take i)).l.room; rw [q2]; omega) (by push_cast; omega) (Int.le_refl 0) (by show _ = (addL F.S (rs.take i)).l.room - 1; rw [q2]; push_cast; omega)
    rw [take_push hr2, addL_push]
    refine ⟨ho, ?_⟩
    have := ho.room.2.2
    show (addRec (addL F.S (rs.take i)) r).l.room = _
    have e : (F.S.l.room - ((i + 1 : Nat) : Int)) + 0 = (addRec (addL F.S (rs.take i)) r).l.room := this
    omega
def wrS (S : PSys) (rs : List RecV) (m : Mst) : PSys := { addL S rs with l := { (addL S rs).l with done := (addL S rs).l.l.length }, d := keepD (lflush (addL S rs).l S.d).2.1 m }
structure WrIn (S : PSys) (rs : List RecV) (m : Mst) (n mm : Nat) : Prop where
  app : ∀ i r, rs[i]? = some r → appendE (addL S (rs.take i)).l r = none ∧ appendL (addL S (rs.take i)).l r = (addL S (rs.take (i + 1))).l
  fl : (lflush (addL S rs).l S.d).2.2 = none ∧ (lflush (addL S rs).l S.d).1 = { (addL S rs).l with done := (addL S rs).l.l.length }
  good : GoodD.Good (lflush (addL S rs).l S.d).2.1 n
  few : LooseLe (lflush (addL S rs).l S.d).2.1 mm
  fuse : FuseOk S.d
  loose : LooseLe S.d mm
theorem wr_in {N mm : Nat} {F : FS} (h : GOk N mm F) {rs : List RecV} {m : Mst} (hr : ∀ r ∈ rs, recOk r = true ∧ is64 r.old ∧ is64 r.new) (hroom : (rs.length : Int) ≤ F.S.l.room) : WrIn F.S rs m N mm := by
  obtain ⟨q, q2⟩ := addL_ok h hr hroom rs.length (Nat.le_refl _)
  rw [List.take_length] at q q2
  obtain ⟨d', e1, e2, e3⟩ := pg_log q.pg
  have e1' : lflush (addL F.S rs).l F.S.d = ({ (addL F.S rs).l with done := (addL F.S rs).l.l.length }, d', none) := e1
  have hlo := lflush_tight q.pg.good (by have := q.lok.first; omega) q.pg.size q.loose
  have hlo' : LooseLe (lflush (addL F.S rs).l F.S.d).2.1 mm := hlo
  refine ⟨fun i r hi => ?_, by rw [e1']; exact ⟨rfl, rfl⟩, by rw [e1']; exact e2.good, hlo', h.fuse, h.loose⟩
  obtain ⟨p, p2⟩ := addL_ok h hr hroom i (by have := (List.getElem?_eq_some_iff.1 hi).1; omega)
  have hlt := (List.getElem?_eq_some_iff.1 hi).1
  obtain ⟨a1, a2, a3⟩ := append_room (hr r (List.mem_of_getElem? hi)).1 (L := (addL F.S (rs.take i)).l) (by rw [p2]; omega)
  refine ⟨a1, ?_⟩
  rw [a3, take_push hi, addL_push]
  rfl
end Go.Proofs.YtaplpeoikebedaaGreatDoor.CkptP
