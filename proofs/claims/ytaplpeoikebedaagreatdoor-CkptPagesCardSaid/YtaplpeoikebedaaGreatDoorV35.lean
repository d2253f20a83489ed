/- Joined texts: MasT, CkptM, ValM, CkptK, RefM. No condition but what each says. -/
import Derived.Test.YtaplpeoikebedaaGreatDoorV34
import Derived.Test.YtaplpeoikebedaaGreatDoorV31
import Derived.Test.YtaplpeoikebedaaGreatDoorV33
import Derived.Laws.CopyOwn
import Derived.Deep.RegionLaw
import Derived.Test.YtaplpeoikebedaaGreatDoorV28
set_option maxHeartbeats 8000000
set_option maxRecDepth 100000
set_option linter.unusedVariables false
set_option linter.unusedSimpArgs false
namespace Go.Proofs.YtaplpeoikebedaaGreatDoor.MasT
open Go.RowKit YtaplpeoikebedaaGreatDoorW.PrintWords YtaplpeoikebedaaGreatDoorW.PrintLast YtaplpeoikebedaaGreatDoorW.PrintMore
open See Mem Clone Go.Proofs.YtaplpeoikebedaaGreatDoor.Cell Page PageB PageR Disk RecD Rec RecC RecB Fill MasC
attribute [local go_sem] max2_imax min2_imin max_two min_two
theorem mst_index (m : Mst) {i x : Int} (h0 : 0 ≤ i) (h7 : i < 7) (hx : (mstL m).getD i.toNat 0 = x) (W : World) : (Instr.index 248 (.agg #[.int .i64 m.epoch, .int .i64 m.base, .int .i64 m.reset, .int .i64 m.ckpt, .int .i64 m.pages, .int .i64 m.blocks, .int .i64 m.frames]) (.int .i64 i)).run Tryz.prog W = .ok (.int .i64 x) W := by
  rw [← hx]
  rcases (show i = 0 ∨ i = 1 ∨ i = 2 ∨ i = 3 ∨ i = 4 ∨ i = 5 ∨ i = 6 by omega) with rfl | rfl | rfl | rfl | rfl | rfl | rfl <;> kernel_rfl
theorem mbytes_calls (m : Mst) (hm : MOk m) (w : World) :
    Calls Tryz.prog 105 #[mstV m] w fun e w' => ∃ v, e = .returned (.tuple #[v, .nilIface]) ∧ BS w' v (mstBytes m) ∧ Below w.heap.size w w' := by
  have HC := Aside0.mk (mcheck_calls m hm)
  obtain ⟨mm, hmm⟩ : ∃ mm, mm = m := ⟨_, rfl⟩
  have HMM := Aside0.mk hmm
  clear hm hmm
  obtain ⟨ep, ba, re, ck, pg, bl, fr⟩ := m
  have hcv := fun (w : World) (C : Array Value) (n c : Nat) => Lib.run_convert_bytes_const (P := Tryz.prog) w 93 5 C n c Tryz.underlying93 Tryz.underlying5
  go_enter Tryz.func105, Tryz.ntmps105
  go_wp2_with fail
  refine (HC.out _).mono ?_
  rintro e w1 ⟨rfl, hb⟩
  have hc0 : w1.cell? ⟨w.heap.size, 0, none⟩ = some (.int .i64 ep) := (hb.cell (p := ⟨w.heap.size, 0, none⟩) (by simp)).trans (by simp)
  have hc1 : w1.cell? ⟨w.heap.size, 1, none⟩ = some (.int .i64 ba) := (hb.cell (p := ⟨w.heap.size, 1, none⟩) (by simp)).trans (by simp)
  have hc2 : w1.cell? ⟨w.heap.size, 2, none⟩ = some (.int .i64 re) := (hb.cell (p := ⟨w.heap.size, 2, none⟩) (by simp)).trans (by simp)
  have hc3 : w1.cell? ⟨w.heap.size, 3, none⟩ = some (.int .i64 ck) := (hb.cell (p := ⟨w.heap.size, 3, none⟩) (by simp)).trans (by simp)
  have hc4 : w1.cell? ⟨w.heap.size, 4, none⟩ = some (.int .i64 pg) := (hb.cell (p := ⟨w.heap.size, 4, none⟩) (by simp)).trans (by simp)
  have hc5 : w1.cell? ⟨w.heap.size, 5, none⟩ = some (.int .i64 bl) := (hb.cell (p := ⟨w.heap.size, 5, none⟩) (by simp)).trans (by simp)
  have hc6 : w1.cell? ⟨w.heap.size, 6, none⟩ = some (.int .i64 fr) := (hb.cell (p := ⟨w.heap.size, 6, none⟩) (by simp)).trans (by simp)
  have hz : w.heap.size < w1.heap.size := by have := hb.size; simp at this; omega
  have HB := Aside0.mk (below_step (below_alloc (Below.refl w.heap.size w) (.cells #[.int .i64 ep, .int .i64 ba, .int .i64 re, .int .i64 ck, .int .i64 pg, .int .i64 bl, .int .i64 fr] 84)) hb)
  clear hb
  go_wp2_with fail
  have HX := Aside0.mk (show BS (w1.alloc (.cells #[.int .u8 80, .int .u8 72, .int .u8 88, .int .u8 77] 5 (4, 5))) (.slice (some ⟨w1.heap.size, 0, none⟩) 4 4) [80, 72, 88, 77] from
    ⟨by simp, by simp, .inr ⟨w1.heap.size, 0, 4, _, _, rfl, heap_alloc_new w1 _, by simp, by decide, by simp, rfl⟩⟩)
  refine (fill_calls _ [80, 72, 88, 77] 256 _ HX.out (by decide) (by decide)).mono ?_
  rintro e w2 ⟨v2, rfl, hv2, hb2⟩
  have HV2 := Aside0.mk hv2
  have hb12 := below_step (below_alloc (Below.refl w1.heap.size w1) (.cells #[.int .u8 80, .int .u8 72, .int .u8 88, .int .u8 77] 5 (4, 5))) hb2
  have HB2 := Aside0.mk (HB.out.trans (hb12.mono HB.out.size))
  replace hc0 := (hb12.cell (p := ⟨w.heap.size, 0, none⟩) hz).trans hc0
  replace hc1 := (hb12.cell (p := ⟨w.heap.size, 1, none⟩) hz).trans hc1
  replace hc2 := (hb12.cell (p := ⟨w.heap.size, 2, none⟩) hz).trans hc2
  replace hc3 := (hb12.cell (p := ⟨w.heap.size, 3, none⟩) hz).trans hc3
  replace hc4 := (hb12.cell (p := ⟨w.heap.size, 4, none⟩) hz).trans hc4
  replace hc5 := (hb12.cell (p := ⟨w.heap.size, 5, none⟩) hz).trans hc5
  replace hc6 := (hb12.cell (p := ⟨w.heap.size, 6, none⟩) hz).trans hc6
  have hz2 : w.heap.size < w2.heap.size := by have := hb12.size; omega
  clear hv2 hb2 hb12 hz HX HB hcv
  go_wp2_with fail
  clear hc0 hc1 hc2 hc3 hc4 hc5 hc6 hz2
  go_loopg [5, 31] 8 (fun kq v5 v31 w' => ∃ (i : Int) (v : Value), v5 = v ∧ v31 = .int .i64 i ∧ Aside0 (0 ≤ i ∧ i ≤ 7 ∧ (kq : Int) = 8 - i) ∧ Aside0 (BS w' v (mstN mm i.toNat)) ∧ Aside0 (Below w.heap.size w w'))
  case atStart => exact ⟨0, _, rfl, rfl, ⟨by omega, by omega, by omega⟩, ⟨HV2.out⟩, HB2⟩
  case round =>
    obtain ⟨i, v, rfl, rfl, HI, HV, HB3⟩ := hrel
    have hi0 : 0 ≤ i := HI.out.1
    by_cases hlt : i < 7
    · obtain ⟨x, hx⟩ : ∃ x, (mstL mm).getD i.toNat 0 = x := ⟨_, rfl⟩
      have hix := mst_index (x := x) ⟨ep, ba, re, ck, pg, bl, fr⟩ hi0 hlt (by rw [← HMM.out, hx]) wr
      simp only at hix
      have HSTEP := Aside0.mk (show mstN mm (i.toNat + 1) = putL (mstN mm i.toNat) (4 + 4 * i.toNat) 4 (IntKind.u64.wrap x) from by rw [← hx]; rfl)
      have HL := Aside0.mk (mstN_len mm i.toNat (by omega))
      have hw4 : IntKind.i64.wrap (4 * i) = 4 * i := by rw [IntKind.wrap_i64]; omega
      have hw5 : IntKind.i64.wrap (4 + 4 * i) = 4 + 4 * i := by rw [IntKind.wrap_i64]; omega
      have hw6 : IntKind.i64.wrap (i + 1) = i + 1 := by rw [IntKind.wrap_i64]; omega
      obtain ⟨y, hy⟩ : ∃ y, IntKind.u64.wrap x = y := ⟨_, rfl⟩
      have hy0 : 0 ≤ y := by rw [← hy]; exact u64_nonneg _
      rw [hy] at HSTEP
      obtain ⟨z, hz⟩ : ∃ z, 4 + 4 * i = z := ⟨_, rfl⟩
      have hz0 : 0 ≤ z := by omega
      have hz1 : z + 4 ≤ 256 := by omega
      have HZ := Aside0.mk (show z.toNat = 4 + 4 * i.toNat by omega)
      rw [hz] at hw5
      clear hx
      go_wp2_with fail
      refine (put_calls _ (mstN mm i.toNat) z 4 y hz0 (by omega) (by omega) (by rw [HL.out]; omega) hy0 _ HV.out).mono ?_
      rintro e w5 ⟨v5, rfl, hv5, hb5⟩
      have HV5 := Aside0.mk (show BS w5 v5 (mstN mm (i + 1).toNat) from by
        rw [show (i + 1).toNat = i.toNat + 1 by omega, HSTEP.out]
        rw [HZ.out] at hv5
        exact hv5)
      have HB5 := Aside0.mk (below_step HB3.out hb5)
      clear hv5 hb5 hix hy hz
      go_wp2_with fail
      go_roundg (gk - 1)
      case measure => have := HI.out; omega
      case rel => exact ⟨i + 1, _, rfl, rfl, ⟨by omega, by omega, by have := HI.out; omega⟩, HV5, HB5⟩
    · have hi7 : i.toNat = 7 := by have := HI.out; omega
      go_wp2_with fail
      exact bodyPost_ret (v := .tuple #[u5, .nilIface]) (by simp [results, Tryz.results105, go_sem]) rfl ⟨u5, rfl, by
        have := HV.out
        rw [hi7] at this
        rw [← HMM.out]
        exact this, HB3.out⟩
end Go.Proofs.YtaplpeoikebedaaGreatDoor.MasT
namespace Go.Proofs.YtaplpeoikebedaaGreatDoor.CkptM
open Go.RowKit Go.Maps YtaplpeoikebedaaGreatDoorW.PrintWords YtaplpeoikebedaaGreatDoorW.PrintLast YtaplpeoikebedaaGreatDoorW.PrintMore
open See Mem Page Disk DiskW RecD Wal Pool2 SysD SysM PoolF PoolE PoolG PoolA StoreD StoreF StoreI StoreJ SpaceT FwdM FwdP BackM BackU MasC MasT CkptD
attribute [local go_sem] max2_imax min2_imin max_two min_two
def ckCells (bp dp : Nat) (m : Mst) : Array Value := #[.pointer (some ⟨bp, 0, none⟩), .pointer (some ⟨dp, 0, none⟩), .int .i64 m.epoch, .int .i64 m.base, .int .i64 m.reset, .int .i64 m.ckpt, .int .i64 m.pages, .int .i64 m.blocks, .int .i64 m.frames]
structure CkIn (M : Nat → Prop) (w : World) (cp bp bm sp lp pp dp qp mp : Nat) (blocks frames : Int) (B : BSt) (m : Mst) (R : Nat → Prop) : Prop where
  box : w.heap[cp]? = some (.cells (ckCells bp dp m) 86 (0, 0))
  b : BkM R w bp bm sp lp pp dp qp mp blocks frames B
  r : ∀ k, R k → M k ∧ k ≠ cp
  low : M cp
def CkM (M : Nat → Prop) (w : World) (cp bp bm sp lp pp dp qp mp : Nat) (blocks frames : Int) (B : BSt) (m : Mst) : Prop := ∃ R, CkIn M w cp bp bm sp lp pp dp qp mp blocks frames B m R
def CkPost (M : Nat → Prop) (cp bp bm sp lp pp dp qp mp : Nat) (blocks frames : Int) (B : BSt) (m : Mst) (w w' : World) : Prop := CkM (Gr M w w') w' cp bp bm sp lp pp dp qp mp blocks frames B m ∧ Kp M w w'
section
variable {M R : Nat → Prop} {cp bp bm sp lp pp dp qp mp : Nat} {blocks frames : Int} {B B' : BSt} {m : Mst} {w w1 w2 w' : World}
theorem CkIn.cells (h : CkIn M w cp bp bm sp lp pp dp qp mp blocks frames B m R) : w.cell? ⟨cp, 0, none⟩ = some (.pointer (some ⟨bp, 0, none⟩)) ∧ w.cell? ⟨cp, 1, none⟩ = some (.pointer (some ⟨dp, 0, none⟩)) ∧ w.cell? ⟨cp, 2, none⟩ = some (.int .i64 m.epoch) ∧ w.cell? ⟨cp, 3, none⟩ = some (.int .i64 m.base) ∧ w.cell? ⟨cp, 4, none⟩ = some (.int .i64 m.reset) ∧ w.cell? ⟨cp, 5, none⟩ = some (.int .i64 m.ckpt) ∧ w.cell? ⟨cp, 6, none⟩ = some (.int .i64 m.pages) ∧ w.cell? ⟨cp, 7, none⟩ = some (.int .i64 m.blocks) ∧ w.cell? ⟨cp, 8, none⟩ = some (.int .i64 m.frames) := by
  have hb := h.box
  refine ⟨?_, ?_, ?_, ?_, ?_, ?_, ?_, ?_, ?_⟩ <;> simp [World.cell?, hb, ckCells]
theorem CkIn.below (h : CkIn M w cp bp bm sp lp pp dp qp mp blocks frames B m R) (hb : Below w.heap.size w w') : CkIn M w' cp bp bm sp lp pp dp qp mp blocks frames B m R :=
  ⟨(hb.block _ (heap_lt h.box)).trans h.box, h.b.below hb, h.r, h.low⟩
theorem CkM.below (h : CkM M w cp bp bm sp lp pp dp qp mp blocks frames B m) (hb : Below w.heap.size w w') : CkM M w' cp bp bm sp lp pp dp qp mp blocks frames B m := by
  obtain ⟨R, h⟩ := h
  exact ⟨R, h.below hb⟩
theorem CkM.mono {M' : Nat → Prop} (h : CkM M w cp bp bm sp lp pp dp qp mp blocks frames B m) (hm : ∀ k, M k → M' k) : CkM M' w cp bp bm sp lp pp dp qp mp blocks frames B m := by
  obtain ⟨R, h⟩ := h
  exact ⟨R, h.box, h.b, fun k hk => ⟨hm k (h.r k hk).1, (h.r k hk).2⟩, hm _ h.low⟩
theorem CkIn.bk (h : CkIn M w cp bp bm sp lp pp dp qp mp blocks frames B m R) (hp : BkPost R bp bm sp lp pp dp qp mp blocks frames B' w w') : CkPost M cp bp bm sp lp pp dp qp mp blocks frames B' m w w' := by
  refine ⟨⟨Gr R w w', hp.2.at h.box (fun hr => (h.r cp hr).2 rfl), hp.1, fun k hk => ?_, .inl h.low⟩, hp.2.wide fun k hk => (h.r k hk).1⟩
  rcases hk with hk | ⟨x, y⟩
  · exact ⟨.inl (h.r k hk).1, (h.r k hk).2⟩
  · exact ⟨.inr ⟨x, y⟩, by have := heap_lt h.box; omega⟩
theorem ck_up {n : Nat} (h : CkPost (fun k => n ≤ k) cp bp bm sp lp pp dp qp mp blocks frames B m w1 w2) (hn : n ≤ w1.heap.size) : CkM (fun k => n ≤ k) w2 cp bp bm sp lp pp dp qp mp blocks frames B m ∧ Below n w1 w2 :=
  ⟨CkM.mono h.1 fun k hk => by
    rcases hk with hk | ⟨h1, _⟩
    · exact hk
    · exact Nat.le_trans hn h1, h.2.below (fun k hk => hk) hn⟩
theorem CkPost.step (h : CkPost M cp bp bm sp lp pp dp qp mp blocks frames B m w w1) (k : Below w1.heap.size w1 w2) : CkPost M cp bp bm sp lp pp dp qp mp blocks frames B m w w2 :=
  ⟨CkM.mono (CkM.below h.1 k) fun j hj => Gr.grow k.size hj, h.2.step k⟩
theorem CkIn.sys (h : CkIn M w cp bp bm sp lp pp dp qp mp blocks frames B m R) {Rb : Nat → Prop} {sl : Int → Value} (hb : BkIn R w bp bm sp lp pp dp qp mp blocks frames B Rb sl) {S' : PSys} (h1 : Below w.heap.size w w1) (hx : SysM (Gr Rb w1 w2) w2 pp lp dp S') (hf : Frm sTurn Rb w1 w2) : CkPost M cp bp bm sp lp pp dp qp mp blocks frames { B with F := { B.F with S := S' } } m w w2 :=
  h.bk (hb.fw (FwPost.back (FwM.sy (hb.f.below h1) hx hf) h1))
end
section
variable (a : Nat → Addr) (M : Nat → Prop) (cp bp bm sp lp pp dp qp mp : Nat) (blocks frames : Int) (B : BSt) (m : Mst) (N mm : Nat) (f : Int → Option Int) (P : Int) (w : World)
def ActPost (e : Ending) (w' : World) : Prop := e = .returned .nilIface ∧ ∃ S', CSt N (mm + 1) f P { B.F with S := S' } ∧ CkPost M cp bp bm sp lp pp dp qp mp blocks frames { B with F := { B.F with S := S' } } m w w'
theorem ckflush_calls (n : Int) (h : CkM M w cp bp bm sp lp pp dp qp mp blocks frames B m) (hc : CSt N mm f P B.F) (hmm : mm ≤ 6000) (hs : SentsAll w a) (hO : OutAll M a) :
    Calls Tryz.prog 48 #[.pointer (some ⟨cp, 0, none⟩), .int .i64 n] w (ActPost M cp bp bm sp lp pp dp qp mp blocks frames B m N mm f P w) := by
  obtain ⟨R, h⟩ := h
  obtain ⟨Rb, sl, hb⟩ := h.b
  obtain ⟨k0, _⟩ := h.cells
  obtain ⟨b0, _⟩ := hb.cells
  have hcl := heap_lt h.box
  have hbl := heap_lt hb.box
  obtain ⟨S', e1, e2⟩ := c_flush hc n
  obtain ⟨ch, kp, ho⟩ := hc.r.ok
  have HP := Aside0.mk (parts_calls Rb sp lp pp dp qp mp blocks frames B.F w hb.f)
  have HFL := Aside0.mk (fun w1 (h1 : Below w.heap.size w w1) => flush_pool a Rb pp lp dp B.F.S n w1 ((hs.below h1).k _ (by decide)) ((OutAll.sub hO fun k hk => (h.r k (hb.r k hk).1).1).k _ (by decide)) (hb.f.sys.below h1) (ho.g.loose.mono (by omega)))
  have HPO := Aside0.mk (fun w1 w2 (h1 : Below w.heap.size w w1) (hp : PFlushPost a Rb pp lp dp B.F.S n w1 (.returned .nilIface) w2) => (show ActPost M cp bp bm sp lp pp dp qp mp blocks frames B m N mm f P w (.returned .nilIface) w2 from by
    obtain ⟨_, hx, hf⟩ := hp
    rw [e1] at hx
    exact ⟨rfl, S', e2, h.sys hb h1 hx hf⟩))
  have HE := Aside0.mk (show errv a (flushS B.F.S n).2 = .nilIface from by rw [e1]; rfl)
  clear h hb hc hs hO e1 e2 ho
  go_enter Tryz.func48, Tryz.ntmps48
  go_wp2_with fail
  refine HP.out.mono ?_
  rintro e w1 ⟨rfl, h1⟩
  have H1 := Aside0.mk h1
  clear h1 k0 b0 hcl hbl
  go_wp2_with fail
  refine (HFL.out w1 H1.out).mono ?_
  rintro e w2 hp
  obtain rfl : e = .returned .nilIface := by rw [hp.1, HE.out]
  have HR := Aside0.mk (HPO.out w1 w2 H1.out hp)
  clear hp
  go_wp2_with fail
  go_ret
  exact HR.out
theorem ckall_calls (h : CkM M w cp bp bm sp lp pp dp qp mp blocks frames B m) (hc : CSt N mm f P B.F) (hmm : mm ≤ 6000) (hs : SentsAll w a) (hO : OutAll M a) :
    Calls Tryz.prog 49 #[.pointer (some ⟨cp, 0, none⟩)] w (ActPost M cp bp bm sp lp pp dp qp mp blocks frames B m N mm f P w) := by
  obtain ⟨R, h⟩ := h
  obtain ⟨Rb, sl, hb⟩ := h.b
  obtain ⟨k0, _⟩ := h.cells
  obtain ⟨b0, _⟩ := hb.cells
  have hcl := heap_lt h.box
  have hbl := heap_lt hb.box
  obtain ⟨S', e1, e2⟩ := c_all hc
  obtain ⟨ch, kp, ho⟩ := hc.r.ok
  have HP := Aside0.mk (parts_calls Rb sp lp pp dp qp mp blocks frames B.F w hb.f)
  have HFL := Aside0.mk (fun w1 (h1 : Below w.heap.size w w1) => flushall_pool a Rb pp lp dp B.F.S w1 ((hs.below h1).k _ (by decide)) ((OutAll.sub hO fun k hk => (h.r k (hb.r k hk).1).1).k _ (by decide)) (hb.f.sys.below h1) (ho.g.loose.mono (by omega)) hc.len)
  have HPO := Aside0.mk (fun w1 w2 (h1 : Below w.heap.size w w1) (hp : PAllPost a Rb pp lp dp B.F.S w1 (.returned .nilIface) w2) => (show ActPost M cp bp bm sp lp pp dp qp mp blocks frames B m N mm f P w (.returned .nilIface) w2 from by
    obtain ⟨_, hx, hf⟩ := hp
    rw [e1] at hx
    exact ⟨rfl, S', e2, h.sys hb h1 hx hf⟩))
  have HE := Aside0.mk (show errv a (flushAllS B.F.S).2 = .nilIface from by rw [e1]; rfl)
  clear h hb hc hs hO e1 e2 ho
  go_enter Tryz.func49, Tryz.ntmps49
  go_wp2_with fail
  refine HP.out.mono ?_
  rintro e w1 ⟨rfl, h1⟩
  have H1 := Aside0.mk h1
  clear h1 k0 b0 hcl hbl
  go_wp2_with fail
  refine (HFL.out w1 H1.out).mono ?_
  rintro e w2 hp
  obtain rfl : e = .returned .nilIface := by rw [hp.1, HE.out]
  have HR := Aside0.mk (HPO.out w1 w2 H1.out hp)
  clear hp
  go_wp2_with fail
  go_ret
  exact HR.out
theorem ckevict_calls (n : Int) (hn1 : -9223372036854775808 ≤ n) (hn2 : n ≤ 9223372036854775807) (h : CkM M w cp bp bm sp lp pp dp qp mp blocks frames B m) (hc : CSt N mm f P B.F) (hmm : mm ≤ 6000) (hs : SentsAll w a) (hO : OutAll M a) :
    Calls Tryz.prog 47 #[.pointer (some ⟨cp, 0, none⟩), .int .i64 n] w (ActPost M cp bp bm sp lp pp dp qp mp blocks frames B m N mm f P w) := by
  obtain ⟨R, h⟩ := h
  obtain ⟨Rb, sl, hb⟩ := h.b
  obtain ⟨k0, _⟩ := h.cells
  obtain ⟨b0, _⟩ := hb.cells
  have hcl := heap_lt h.box
  have hbl := heap_lt hb.box
  obtain ⟨S', e1, e2⟩ := c_evict hc n
  obtain ⟨ch, kp, ho⟩ := hc.r.ok
  have HP := Aside0.mk (parts_calls Rb sp lp pp dp qp mp blocks frames B.F w hb.f)
  have HFL := Aside0.mk (fun w1 (h1 : Below w.heap.size w w1) => evict_pool a Rb pp lp dp B.F.S n w1 ((hs.below h1).k _ (by decide)) ((OutAll.sub hO fun k hk => (h.r k (hb.r k hk).1).1).k _ (by decide)) (hb.f.sys.below h1) (ho.g.loose.mono (by omega)) hn1 hn2)
  have HPO := Aside0.mk (fun w1 w2 (h1 : Below w.heap.size w w1) (hp : PEvictPost a Rb pp lp dp B.F.S n w1 (.returned .nilIface) w2) => (show ActPost M cp bp bm sp lp pp dp qp mp blocks frames B m N mm f P w (.returned .nilIface) w2 from by
    obtain ⟨_, hx, hf⟩ := hp
    rw [e1] at hx
    exact ⟨rfl, S', e2, h.sys hb h1 hx hf⟩))
  have HE := Aside0.mk (show errv a (evictS B.F.S n).2 = .nilIface from by rw [e1]; rfl)
  clear h hb hc hs hO e1 e2 ho
  go_enter Tryz.func47, Tryz.ntmps47
  go_wp2_with fail
  refine HP.out.mono ?_
  rintro e w1 ⟨rfl, h1⟩
  have H1 := Aside0.mk h1
  clear h1 k0 b0 hcl hbl
  go_wp2_with fail
  refine (HFL.out w1 H1.out).mono ?_
  rintro e w2 hp
  obtain rfl : e = .returned .nilIface := by rw [hp.1, HE.out]
  have HR := Aside0.mk (HPO.out w1 w2 H1.out hp)
  clear hp
  go_wp2_with fail
  go_ret
  exact HR.out
end
theorem master_calls {M : Nat → Prop} {cp bp bm sp lp pp dp qp mp : Nat} {blocks frames : Int} {B : BSt} {m : Mst} {w : World} (h : CkM M w cp bp bm sp lp pp dp qp mp blocks frames B m) :
    Calls Tryz.prog 41 #[.pointer (some ⟨cp, 0, none⟩)] w fun e w' => e = .returned (mstV m) ∧ Below w.heap.size w w' := by
  obtain ⟨R, h⟩ := h
  obtain ⟨c0, c1, c2, c3, c4, c5, c6, c7, c8⟩ := h.cells
  have hcl := heap_lt h.box
  clear h c0 c1
  obtain ⟨ep, ba, re, ck, pg, bl, fr⟩ := m
  go_enter Tryz.func41, Tryz.ntmps41
  go_wp2_with fail
  exact bodyPost_ret (v := mstV ⟨ep, ba, re, ck, pg, bl, fr⟩) (results_cell_row Tryz.results41 _ _ w.heap.size _ _ (0, 0) _ rfl (heap_alloc_new w _) Tryz.underlying84 rfl (by kernel_rfl)) rfl ⟨rfl, below_alloc (Below.refl _ _) _⟩
end Go.Proofs.YtaplpeoikebedaaGreatDoor.CkptM
namespace Go.Proofs.YtaplpeoikebedaaGreatDoor.ValM
open Go.RowKit Go.Maps YtaplpeoikebedaaGreatDoorW.PrintWords YtaplpeoikebedaaGreatDoorW.PrintLast YtaplpeoikebedaaGreatDoorW.PrintMore
open See Mem Page Disk Pool2 SysD SysM StoreD StoreF FwdM FwdP FwdT BackM
def arrB (hs : Int → Bool) : Array Value := ((List.range 30).map fun j : Nat => Value.bool (hs j)).toArray
def arrV (vl : Int → Int) : Array Value := ((List.range 30).map fun j : Nat => Value.int .i64 (vl j)).toArray
theorem arrB_at (hs : Int → Bool) {k : Int} (h0 : 0 ≤ k) (h1 : k < 30) : (arrB hs)[k.toNat]? = some (.bool (hs k)) := by
  unfold arrB
  simp only [List.getElem?_toArray, List.getElem?_map]
  rw [List.getElem?_range (by omega)]
  simp only [Option.map_some]
  rw [Int.toNat_of_nonneg h0]
theorem arrV_at (vl : Int → Int) {k : Int} (h0 : 0 ≤ k) (h1 : k < 30) : (arrV vl)[k.toNat]? = some (.int .i64 (vl k)) := by
  unfold arrV
  simp only [List.getElem?_toArray, List.getElem?_map]
  rw [List.getElem?_range (by omega)]
  simp only [Option.map_some]
  rw [Int.toNat_of_nonneg h0]
theorem cell_at {w : World} {b : Nat} {cs : Array Value} {t : Nat} (h : w.heap[b]? = some (.cells cs t (0, 0))) (i : Nat) : w.cell? ⟨b, i, none⟩ = cs[i]? := by simp [World.cell?, h]
theorem froz_at {w : World} {b : Nat} {cs : Array Value} {t : Nat} (h : w.heap[b]? = some (.cells cs t (0, 0))) (i : Nat) : w.frozen? ⟨b, i, none⟩ = false := by simp [World.frozen?, h]
def Mx (n : Nat) (l : List Nat) : Nat → Prop := fun k => n ≤ k ∧ k ∉ l
theorem mx_up {n : Nat} {l : List Nat} {w1 w2 : World} {bp bm sp lp pp dp qp mp : Nat} {blocks frames : Int} {B : BSt} (h : BkPost (Mx n l) bp bm sp lp pp dp qp mp blocks frames B w1 w2) (hn : n ≤ w1.heap.size) (hl : ∀ k ∈ l, k < w1.heap.size) : BkM (Mx n l) w2 bp bm sp lp pp dp qp mp blocks frames B ∧ Below n w1 w2 ∧ ∀ k ∈ l, w2.heap[k]? = w1.heap[k]? := by
  refine ⟨BkM.mono h.1 fun k hk => ?_, h.2.below (fun k hk => hk.1) hn, fun k hk => h.2.block k (hl k hk) fun hm => hm.2 hk⟩
  rcases hk with hk | ⟨a, b⟩
  · exact hk
  · exact ⟨by omega, fun hx => by have := hl k hx; omega⟩
structure VaM (n b1 b2 b3 b4 : Nat) (bp bm sp lp pp dp qp mp : Nat) (blocks frames : Int) (hs hs0 : Int → Bool) (vl vl0 : Int → Int) (w0 : World) (B : BSt) (w : World) : Prop where
  bk : BkM (Mx n [b1, b2, b3, b4]) w bp bm sp lp pp dp qp mp blocks frames B
  below : Below n w0 w
  size : n ≤ w.heap.size
  ge : n ≤ b1 ∧ n ≤ b2 ∧ n ≤ b3 ∧ n ≤ b4
  ne : b1 < b2 ∧ b2 < b3 ∧ b3 < b4
  a1 : w.heap[b1]? = some (.cells (arrB hs) 43 (0, 0))
  a2 : w.heap[b2]? = some (.cells (arrB hs0) 43 (0, 0))
  a3 : w.heap[b3]? = some (.cells (arrV vl) 44 (0, 0))
  a4 : w.heap[b4]? = some (.cells (arrV vl0) 44 (0, 0))
section
variable {n b1 b2 b3 b4 : Nat} {bp bm sp lp pp dp qp mp : Nat} {blocks frames : Int} {hs hs0 : Int → Bool} {vl vl0 : Int → Int} {w0 w w' : World} {B B' : BSt}
theorem VaM.up (h : VaM n b1 b2 b3 b4 bp bm sp lp pp dp qp mp blocks frames hs hs0 vl vl0 w0 B w) (hp : BkPost (Mx n [b1, b2, b3, b4]) bp bm sp lp pp dp qp mp blocks frames B' w w') : VaM n b1 b2 b3 b4 bp bm sp lp pp dp qp mp blocks frames hs hs0 vl vl0 w0 B' w' := by
  obtain ⟨x, y, z⟩ := mx_up hp h.size fun k hk => by
    simp only [List.mem_cons, List.not_mem_nil, or_false] at hk
    rcases hk with rfl | rfl | rfl | rfl
    · exact heap_lt h.a1
    · exact heap_lt h.a2
    · exact heap_lt h.a3
    · exact heap_lt h.a4
  exact ⟨x, h.below.trans y, Nat.le_trans h.size y.size, h.ge, h.ne, (z _ (by simp)).trans h.a1, (z _ (by simp)).trans h.a2, (z _ (by simp)).trans h.a3, (z _ (by simp)).trans h.a4⟩
theorem VaM.low (h : VaM n b1 b2 b3 b4 bp bm sp lp pp dp qp mp blocks frames hs hs0 vl vl0 w0 B w) (hb : Below w.heap.size w w') : VaM n b1 b2 b3 b4 bp bm sp lp pp dp qp mp blocks frames hs hs0 vl vl0 w0 B w' :=
  ⟨h.bk.below hb, h.below.trans (hb.mono h.size), Nat.le_trans h.size hb.size, h.ge, h.ne, (hb.block _ (heap_lt h.a1)).trans h.a1, (hb.block _ (heap_lt h.a2)).trans h.a2, (hb.block _ (heap_lt h.a3)).trans h.a3, (hb.block _ (heap_lt h.a4)).trans h.a4⟩
theorem VaM.box (h : VaM n b1 b2 b3 b4 bp bm sp lp pp dp qp mp blocks frames hs hs0 vl vl0 w0 B w) : w.cell? ⟨bp, 0, none⟩ = some (.pointer (some ⟨sp, 0, none⟩)) ∧ bp < w.heap.size := by
  obtain ⟨R, sl, hi⟩ := h.bk
  exact ⟨hi.cells.1, heap_lt hi.box⟩
theorem VaM.c1 (h : VaM n b1 b2 b3 b4 bp bm sp lp pp dp qp mp blocks frames hs hs0 vl vl0 w0 B w) {k : Int} (h0 : 0 ≤ k) (h1 : k < 30) : w.cell? ⟨b1, k.toNat, none⟩ = some (.bool (hs k)) ∧ w.frozen? ⟨b1, k.toNat, none⟩ = false ∧ b1 < w.heap.size := ⟨(cell_at h.a1 _).trans (arrB_at hs h0 h1), froz_at h.a1 _, heap_lt h.a1⟩
theorem VaM.c2 (h : VaM n b1 b2 b3 b4 bp bm sp lp pp dp qp mp blocks frames hs hs0 vl vl0 w0 B w) {k : Int} (h0 : 0 ≤ k) (h1 : k < 30) : w.cell? ⟨b2, k.toNat, none⟩ = some (.bool (hs0 k)) ∧ b2 < w.heap.size := ⟨(cell_at h.a2 _).trans (arrB_at hs0 h0 h1), heap_lt h.a2⟩
theorem VaM.c3 (h : VaM n b1 b2 b3 b4 bp bm sp lp pp dp qp mp blocks frames hs hs0 vl vl0 w0 B w) {k : Int} (h0 : 0 ≤ k) (h1 : k < 30) : w.cell? ⟨b3, k.toNat, none⟩ = some (.int .i64 (vl k)) ∧ w.frozen? ⟨b3, k.toNat, none⟩ = false ∧ b3 < w.heap.size := ⟨(cell_at h.a3 _).trans (arrV_at vl h0 h1), froz_at h.a3 _, heap_lt h.a3⟩
theorem VaM.c4 (h : VaM n b1 b2 b3 b4 bp bm sp lp pp dp qp mp blocks frames hs hs0 vl vl0 w0 B w) {k : Int} (h0 : 0 ≤ k) (h1 : k < 30) : w.cell? ⟨b4, k.toNat, none⟩ = some (.int .i64 (vl0 k)) ∧ b4 < w.heap.size := ⟨(cell_at h.a4 _).trans (arrV_at vl0 h0 h1), heap_lt h.a4⟩
end
theorem alloc_len (w : World) (o : Obj) : (w.alloc o).heap.size = w.heap.size + 1 := by
  show (w.heap.push o).size = _
  rw [Array.size_push]
theorem alloc_after {w W : World} {o : Obj} {k : Nat} (hk : w.heap.size = k) (hb : Below (w.alloc o).heap.size (w.alloc o) W) : W.heap[k]? = some o := by
  subst hk
  refine (hb.block _ (by rw [alloc_len]; omega)).trans ?_
  show (w.heap.push o)[w.heap.size]? = some o
  exact Array.getElem?_push_size
end Go.Proofs.YtaplpeoikebedaaGreatDoor.ValM
namespace Go.Proofs.YtaplpeoikebedaaGreatDoor.CkptK
open Go.RowKit Go.Maps YtaplpeoikebedaaGreatDoorW.PrintWords YtaplpeoikebedaaGreatDoorW.PrintLast YtaplpeoikebedaaGreatDoorW.PrintMore
open See Mem Page Disk DiskW DiskS RecD Wal Pool2 SysD SysM PoolF PoolE PoolG PoolA StoreD StoreF StoreI StoreJ SpaceT FwdM FwdP BackM BackU MasC MasT CkptD CkptM
attribute [local go_sem] max2_imax min2_imin max_two min_two
def keepD (d : Dsk) (m : Mst) : Dsk := syncD (writeD d 0 (mstBytes m))
theorem keep_good {d : Dsk} {n : Nat} {m : Mst} (h : GoodD.Good d n) (hn : 0 < n) : GoodD.Good (keepD d m) n ∧ (∀ j, readV (keepD d m) j = if j = 0 then mstBytes m else readV d j) ∧ ∀ s ∈ (keepD d m).l, s.loose = [] := by
  obtain ⟨x1, x2, x3⟩ := h.write (i := 0) (b := mstBytes m) (Int.le_refl 0) (by omega) (mst_sec m).1
  obtain ⟨y1, y2, y3⟩ := x2.sync
  refine ⟨y2, fun j => (y3 j).trans (x3 j), fun s hs => ?_⟩
  have hd : (syncD (writeD d 0 (mstBytes m))).l = (writeD d 0 (mstBytes m)).l.map fastS := by
    have h1 := x2.on
    have h2 := x2.fuse
    unfold syncD
    rw [if_neg (by rw [h1]; decide), if_pos (by unfold spendB; rw [h2]; decide)]
  have hs' : s ∈ (syncD (writeD d 0 (mstBytes m))).l := hs
  rw [hd] at hs'
  obtain ⟨x, _, rfl⟩ := List.mem_map.1 hs'
  rfl
theorem keep_calls (a : Nat → Addr) (M : Nat → Prop) (dp : Nat) (d : Dsk) (m : Mst) (n : Nat) (w : World) (hs : Sents w a) (hO : Out M a) (hd : DskM M w dp d) (hg : GoodD.Good d n) (hn : 0 < n) (hm : MOk m) (hfew : ∀ s ∈ d.l, s.loose.length ≤ 90000) :
    Calls Tryz.prog 108 #[.pointer (some ⟨dp, 0, none⟩), mstV m] w fun e w' => e = .returned .nilIface ∧ DskM (Gr M w w') w' dp (keepD d m) ∧ Frm dTurn M w w' := by
  obtain ⟨x1, x2, x3⟩ := hg.write (i := 0) (b := mstBytes m) (Int.le_refl 0) (by omega) (mst_sec m).1
  obtain ⟨y1, y2, y3⟩ := x2.sync
  have HS := Aside0.mk hs
  have HO := Aside0.mk hO
  have HBY := Aside0.mk (mbytes_calls m hm)
  have HWR := Aside0.mk (fun (w1 : World) (v : Value) (h1 : Below w.heap.size w w1) (hv : BS w1 v (mstBytes m)) => write_disk a M dp d 0 v (mstBytes m) w1 (HS.out.below h1) HO.out (hd.below h1) hv (mst_sec m).2 (by unfold FuseOk; rw [hg.fuse]; omega) (fun s hs => Nat.le_trans (hfew s hs) (by omega)))
  have HSY := Aside0.mk (fun (w1 w2 : World) (h1 : Below w.heap.size w w1) (hp : WritePost a M dp d 0 (mstBytes m) w1 (.returned .nilIface) w2) => sync_disk a (Gr M w1 w2) dp (writeD d 0 (mstBytes m)) w2 (sents_frm (HS.out.below h1) hp.2.2 HO.out) (HO.out.gr (HS.out.below h1)) hp.2.1 (by unfold FuseOk; rw [x2.fuse]; omega) (fun s hs => by
    have hl : (writeD d 0 (mstBytes m)).l = d.l.modify 0 fun s => ⟨s.fast, s.loose ++ [mstBytes m]⟩ := by
      unfold writeD
      rw [if_neg (by rw [hg.on]; decide), if_pos (hg.inD (Int.le_refl 0) (by omega)), if_pos (mst_sec m).1, spendD_l]
      rfl
    rw [hl] at hs
    obtain ⟨j, hj⟩ := List.mem_iff_getElem?.1 hs
    rw [List.getElem?_modify] at hj
    obtain ⟨y, hy, e⟩ := Option.map_eq_some_iff.1 hj
    have := hfew y (List.mem_of_getElem? hy)
    rw [← e]
    split
    · simp; omega
    · omega))
  have HWE := Aside0.mk x1
  have HSE := Aside0.mk y1
  have HPO := Aside0.mk (fun (w1 w2 w3 : World) (h1 : Below w.heap.size w w1) (hp : WritePost a M dp d 0 (mstBytes m) w1 (.returned .nilIface) w2) (hq : SyncPost a (Gr M w1 w2) dp (writeD d 0 (mstBytes m)) w2 (.returned .nilIface) w3) => (show DskM (Gr M w w3) w3 dp (keepD d m) ∧ Frm dTurn M w w3 from by
    have hz1 := h1.size
    have hz2 := hp.2.2.size
    have hz3 := hq.2.2.size
    refine ⟨hq.2.1.mono fun k hk => ?_, (Frm.of_below h1).trans (hp.2.2.transG hq.2.2)⟩
    rcases hk with hk | ⟨x, y⟩
    · exact .inl hk
    · exact .inr ⟨by omega, by omega⟩))
  clear hs hO hd hg hn hm hfew x1 x2 x3 y1 y2 y3
  obtain ⟨mm, hmm⟩ : ∃ mm, mm = m := ⟨_, rfl⟩
  rw [← hmm] at HBY HWR HSY HWE HSE HPO
  have HMM := Aside0.mk hmm
  clear hmm
  obtain ⟨ep, ba, re, ck, pg, bl, fr⟩ := m
  have HBY2 := Aside0.mk (show ∀ w, Calls Tryz.prog 105 #[.agg #[.int .i64 ep, .int .i64 ba, .int .i64 re, .int .i64 ck, .int .i64 pg, .int .i64 bl, .int .i64 fr]] w fun e w' => ∃ v, e = .returned (.tuple #[v, .nilIface]) ∧ BS w' v (mstBytes mm) ∧ Below w.heap.size w w' from fun w => by
    have := HBY.out w
    rw [HMM.out] at this ⊢
    exact this)
  clear HBY
  go_enter Tryz.func108, Tryz.ntmps108
  go_wp2_with fail
  refine (HBY2.out _).mono ?_
  rintro e w1 ⟨v, rfl, hv, hb⟩
  have HV := Aside0.mk hv
  have HB := Aside0.mk (below_step (below_alloc (Below.refl w.heap.size w) _) hb)
  obtain ⟨A, c, rfl, _, _⟩ := Rd.form hv
  clear hv hb
  go_wp2_with fail
  refine (HWR.out w1 _ HB.out HV.out).mono ?_
  rintro e w2 hp
  obtain rfl : e = .returned .nilIface := by rw [hp.1, HWE.out]; rfl
  have HP2 := Aside0.mk hp
  clear hp
  go_wp2_with fail
  refine (HSY.out w1 w2 HB.out HP2.out).mono ?_
  rintro e w3 hp
  obtain rfl : e = .returned .nilIface := by rw [hp.1, HSE.out]; rfl
  have HP3 := Aside0.mk (HPO.out w1 w2 w3 HB.out HP2.out hp)
  clear hp
  go_wp2_with fail
  go_ret
  exact ⟨rfl, by rw [← HMM.out]; exact HP3.out⟩
theorem cknew_calls (n0 bp dp : Nat) (m : Mst) (w : World) :
    Calls Tryz.prog 94 #[.pointer (some ⟨bp, 0, none⟩), .pointer (some ⟨dp, 0, none⟩), mstV m] w fun e w' => ∃ cp, e = .returned (.pointer (some ⟨cp, 0, none⟩)) ∧ w.heap.size ≤ cp ∧ w'.heap[cp]? = some (.cells (ckCells bp dp m) 86 (0, 0)) ∧ Below w.heap.size w w' := by
  obtain ⟨ep, ba, re, ck, pg, bl, fr⟩ := m
  go_enter Tryz.func94, Tryz.ntmps94
  go_wp2_with fail
  exact bodyPost_ret (v := .pointer (some ⟨w.heap.size + 1, 0, none⟩)) (by simp [results, Tryz.results94, go_sem]) rfl ⟨w.heap.size + 1, rfl, by omega, ValM.alloc_after (ValM.alloc_len w _) (Below.refl _ _), below_alloc (below_alloc (Below.refl _ _) _) _⟩
section
variable (a : Nat → Addr) (M : Nat → Prop) (cp bp bm sp lp pp dp qp mp : Nat) (blocks frames : Int) (B : BSt) (m : Mst) (N mm : Nat) (f : Int → Option Int) (P : Int) (w : World)
theorem prefetch_calls (n hint : Int) (hn1 : 1 ≤ n) (hn2 : n ≤ P) (hmP : m.pages = P) (hh1 : -9223372036854775808 ≤ hint) (hh2 : hint ≤ 9223372036854775807) (h : CkM M w cp bp bm sp lp pp dp qp mp blocks frames B m) (hc : CSt N mm f P B.F) (hmm : mm ≤ 6000) (hs : SentsAll w a) (hO : OutAll M a) :
    Calls Tryz.prog 46 #[.pointer (some ⟨cp, 0, none⟩), .int .i64 n, .int .i64 hint] w (ActPost M cp bp bm sp lp pp dp qp mp blocks frames B m N mm f P w) := by
  obtain ⟨R, h⟩ := h
  obtain ⟨Rb, sl, hb⟩ := h.b
  obtain ⟨k0, _, _, _, _, _, k6, _⟩ := h.cells
  rw [hmP] at k6
  obtain ⟨b0, _⟩ := hb.cells
  have hcl := heap_lt h.box
  have hbl := heap_lt hb.box
  obtain ⟨S', g, e1, e2⟩ := c_fetch hc n hint hn1 hn2
  obtain ⟨ch, kp, ho⟩ := hc.r.ok
  have HP := Aside0.mk (parts_calls Rb sp lp pp dp qp mp blocks frames B.F w hb.f)
  have HFL := Aside0.mk (fun w1 (h1 : Below w.heap.size w w1) => get_pool a Rb pp lp dp B.F.S n hint w1 ((hs.below h1).k _ (by decide)) ((OutAll.sub hO fun k hk => (h.r k (hb.r k hk).1).1).k _ (by decide)) (hb.f.sys.below h1) (ho.g.loose.mono (by omega)) hh1 hh2)
  have HPO := Aside0.mk (fun w1 w2 e (h1 : Below w.heap.size w w1) (hp : PGetPost a Rb pp lp dp B.F.S n hint w1 e w2) => (show ∃ l sl, e = .returned (.tuple #[.agg #[.int .i64 l, sl], .nilIface]) ∧ (∃ A' n' c', sl = .slice A' n' c') ∧ ∀ w3, Below w2.heap.size w2 w3 → ActPost M cp bp bm sp lp pp dp qp mp blocks frames B m N mm f P w (.returned .nilIface) w3 from by
    obtain ⟨sl, ev, rfl, hp2, hf, hx, hfr⟩ := hp
    rw [e1] at hx hf hp2
    obtain rfl : ev = .nilIface := hf
    obtain ⟨A', c', hsl, _⟩ := ow_slice hp2.1
    exact ⟨_, sl, rfl, ⟨_, _, _, hsl⟩, fun w3 h3 => ⟨rfl, S', e2, CkPost.step (h.sys hb h1 hx hfr) h3⟩⟩))
  clear h hb hc hs hO e1 e2 ho
  go_enter Tryz.func46, Tryz.ntmps46
  go_wp2_with fail
  refine HP.out.mono ?_
  rintro e w1 ⟨rfl, h1⟩
  have H1 := Aside0.mk h1
  clear h1 k0 b0 hcl hbl
  go_wp2_with fail
  refine (HFL.out w1 H1.out).mono ?_
  rintro e w2 hp
  obtain ⟨l, sl, rfl, ⟨A', n', c', rfl⟩, hR⟩ := HPO.out w1 w2 e H1.out hp
  have HR := Aside0.mk hR
  clear hp hR
  go_wp2_with fail
  go_ret
  exact HR.out _ (below_alloc (Below.refl _ _) _)
theorem prefetch_range (n hint : Int) (hn : n < 1 ∨ P < n) (hmP : m.pages = P) (h : CkM M w cp bp bm sp lp pp dp qp mp blocks frames B m) (hs : SentsAll w a) :
    Calls Tryz.prog 46 #[.pointer (some ⟨cp, 0, none⟩), .int .i64 n, .int .i64 hint] w fun e w' => e = .returned (errv a (some 1)) ∧ Below w.heap.size w w' := by
  obtain ⟨R, h⟩ := h
  obtain ⟨k0, _, _, _, _, _, k6, _⟩ := h.cells
  rw [hmP] at k6
  have hcl := heap_lt h.box
  have hg1 : w.cell? ⟨6, 0, none⟩ = some (.iface 333 (.pointer (some (a 1)))) := hs.cell 1 (by decide)
  have hgl1 : 6 < w.heap.size := World.block_lt_of_cell? _ _ hg1
  clear h hs
  by_cases h1 : n < 1
  · go_enter Tryz.func46, Tryz.ntmps46
    go_wp2_with fail
    go_ret
    exact ⟨rfl, Below.refl _ _⟩
  · have h2 : P < n := by omega
    have hd1 : decide (n < 1) = false := decide_eq_false h1
    have hd2 : decide (n > P) = true := decide_eq_true h2
    go_enter Tryz.func46, Tryz.ntmps46
    go_wp2_with fail
    go_ret
    exact ⟨rfl, Below.refl _ _⟩
end
end Go.Proofs.YtaplpeoikebedaaGreatDoor.CkptK
namespace Go.Proofs.YtaplpeoikebedaaGreatDoor.RefM
open Go.RowKit YtaplpeoikebedaaGreatDoorW.PrintWords YtaplpeoikebedaaGreatDoorW.PrintLast YtaplpeoikebedaaGreatDoorW.PrintMore
open RefN See Mem Clone Go.Proofs.YtaplpeoikebedaaGreatDoor.Cell Page PageB PageR Disk DiskN
attribute [local go_sem] max2_imax min2_imin max_two min_two
theorem mas7g {w : World} {b : Nat} {x0 x1 x2 x3 x4 x5 x6 : Value} (h : w.heap[b]? = some (.cells #[x0, x1, x2, x3, x4, x5, x6] 84 (0, 0))) :
    w.cell? ⟨b, 0, none⟩ = some x0 ∧ w.cell? ⟨b, 1, none⟩ = some x1 ∧ w.cell? ⟨b, 2, none⟩ = some x2 ∧ w.cell? ⟨b, 3, none⟩ = some x3 ∧ w.cell? ⟨b, 4, none⟩ = some x4 ∧ w.cell? ⟨b, 5, none⟩ = some x5 ∧ w.cell? ⟨b, 6, none⟩ = some x6 := by
  refine ⟨?_, ?_, ?_, ?_, ?_, ?_, ?_⟩ <;> simp [World.cell?, h]
theorem rnew2_calls (m0 m1 m2 m3 m4 m5 m6 c0 c1 c2 c3 : Int) (dp pp : Nat) (l m : Value) (lp : Nat) (w : World) (hm : m = .agg #[.int .i64 m0, .int .i64 m1, .int .i64 m2, .int .i64 m3, .int .i64 m4, .int .i64 m5, .int .i64 m6]) (hl : l = .pointer (some ⟨lp, 0, none⟩)) (hc1 : 0 ≤ c1 ∧ c1 ≤ 100) (k2 : w.cell? ⟨lp, 2, none⟩ = some (.int .i64 c1)) (k3 : w.cell? ⟨lp, 3, none⟩ = some (.int .i64 0)) (k5 : w.cell? ⟨lp, 5, none⟩ = some (.slice none 0 0)) :
    Calls Tryz.prog 83 #[.agg #[.int .i64 c0, .int .i64 c1, .int .i64 c2, .int .i64 c3], .pointer (some ⟨dp, 0, none⟩), l, .pointer (some ⟨pp, 0, none⟩), .int .i64 0, m] w fun e w' => ∃ q, e = .returned (.pointer (some ⟨q, 0, none⟩)) ∧ Below w.heap.size w w' := by
  subst hl
  subst hm
  have HR := Aside0.mk (fun (V : World) (hb : Below w.heap.size w V) => rroom_calls lp c1 V hc1 (pw_cell_below hb k2) (pw_cell_below hb k3) (pw_cell_below hb k5))
  clear k2 k3 k5
  obtain ⟨W, hW⟩ : ∃ W, (w.alloc (.cells #[.int .i64 c0, .int .i64 c1, .int .i64 c2, .int .i64 c3] 31)).alloc (.cells #[.int .i64 m0, .int .i64 m1, .int .i64 m2, .int .i64 m3, .int .i64 m4, .int .i64 m5, .int .i64 m6] 84) = W := ⟨_, rfl⟩
  have HBW := Aside0.mk (show Below w.heap.size w W by rw [← hW]; repeat (first | exact Below.refl _ _ | apply below_alloc))
  have HCF := Aside0.mk (show W.heap[w.heap.size]? = some (.cells #[.int .i64 c0, .int .i64 c1, .int .i64 c2, .int .i64 c3] 31 (0, 0)) by
    rw [← hW]; exact (Below.heap_alloc _ _ _ (by show _ < (w.heap.push _).size; rw [Array.size_push]; omega)).trans (heap_alloc_new w _))
  have HMA := Aside0.mk (show W.heap[w.heap.size + 1]? = some (.cells #[.int .i64 m0, .int .i64 m1, .int .i64 m2, .int .i64 m3, .int .i64 m4, .int .i64 m5, .int .i64 m6] 84 (0, 0)) by
    rw [← hW]
    have := heap_alloc_new (w.alloc (.cells #[.int .i64 c0, .int .i64 c1, .int .i64 c2, .int .i64 c3] 31)) (.cells #[.int .i64 m0, .int .i64 m1, .int .i64 m2, .int .i64 m3, .int .i64 m4, .int .i64 m5, .int .i64 m6] 84)
    rw [show (w.alloc (.cells #[.int .i64 c0, .int .i64 c1, .int .i64 c2, .int .i64 c3] 31)).heap.size = w.heap.size + 1 from by show (w.heap.push _).size = _; rw [Array.size_push]] at this
    exact this)
  obtain ⟨a0, a1, a2, a3⟩ := cfg4 HCF.out
  obtain ⟨e0, e1, e2, e3, e4, e5, e6⟩ := mas7g HMA.out
  have HWE := Aside0.mk hW
  clear hW
  go_enter Tryz.func83, Tryz.ntmps83
  go_upto_region 1 with fail
  rw [HWE.out]
  go_cut [13] (fun v13 wx => ∃ (q : Nat), v13 = .pointer (some ⟨q, 0, none⟩) ∧ Aside0 (wx.cell? ⟨q, 10, none⟩ = some (.int .i64 0) ∧ wx.frozen? ⟨q, 10, none⟩ = false) ∧ Aside0 (w.heap.size ≤ q) ∧ Aside0 (Below w.heap.size w wx))
  case first =>
    go_region_law (first
      | (go_simp; go_at_call 141; refine (HR.out _ (by repeat (first | exact HBW.out | apply below_drew1 | apply below_alloc))).mono ?_; rintro e wa ⟨rr, rfl, hba⟩; obtain ⟨b0, b1, b2, b3⟩ := cfg4 ((hba.block _ (heap_lt HCF.out)).trans HCF.out); obtain ⟨f0, f1, f2, f3, f4, f5, f6⟩ := mas7g ((hba.block _ (heap_lt HMA.out)).trans HMA.out))
      | (go_simp; go_at_call 140; refine (rspace_calls rr _).mono ?_; rintro e wb ⟨pb, rfl, hbb⟩; have hbc := below_step hba hbb; obtain ⟨g0, g1, g2, g3⟩ := cfg4 ((hbc.block _ (heap_lt HCF.out)).trans HCF.out); obtain ⟨h0, h1, h2, h3, h4, h5, h6⟩ := mas7g ((hbc.block _ (heap_lt HMA.out)).trans HMA.out)))
    all_goals
      have hwb := below_step HBW.out (show Below W.heap.size W wb from ⟨hbc.os, hbc.tape, hbc.output, hbc.size, hbc.block⟩)
      have hws := hwb.size
      clear a0 a1 a2 a3 e0 e1 e2 e3 e4 e5 e6 b0 b1 b2 b3 f0 f1 f2 f3 f4 f5 f6 g0 g1 g2 g3 h0 h1 h2 h3 h4 h5 h6
      go_wp2_with fail
      go_meet
      exact ⟨_, rfl, ⟨cellx (heap_alloc_new _ _) rfl⟩, ⟨hws⟩, ⟨by repeat (first | exact hwb | apply below_drew1 | apply below_alloc)⟩⟩
  case rest =>
    obtain ⟨q, rfl, HQ, HQL, HB⟩ := hcut
    generalize wc = V at HQ HB ⊢
    clear a0 a1 a2 a3 e0 e1 e2 e3 e4 e5 e6
    go_wp2_with fail
    refine (rseen_calls q 9 _ HQ.out.1 HQ.out.2).mono ?_
    rintro e V2 ⟨⟨v, rfl⟩, v2, rfl⟩
    have HF := Aside0.mk (show Below w.heap.size w (V.setCell ⟨q, 10, none⟩ v) from HB.out.setCell HQL.out v)
    generalize V.setCell ⟨q, 10, none⟩ v = V3 at HF ⊢
    go_wp2_with fail
    go_ret
    first
      | exact ⟨⟨_, rfl⟩, HF.out⟩
      | exact ⟨_, rfl, HF.out⟩
end Go.Proofs.YtaplpeoikebedaaGreatDoor.RefM
