/- Joined texts: PagW, WalkCkptPages. No condition but what each says. -/
import Derived.Test.YtaplpeoikebedaaGreatDoorV33
import Derived.Test.YtaplpeoikebedaaGreatDoorV35
import Derived.Test.YtaplpeoikebedaaGreatDoorV38
set_option maxHeartbeats 8000000
set_option maxRecDepth 100000
set_option linter.unusedVariables false
set_option linter.unusedSimpArgs false
namespace Go.Proofs.YtaplpeoikebedaaGreatDoor.PagW
open Go.RowKit Go.Maps YtaplpeoikebedaaGreatDoorW.PrintWords YtaplpeoikebedaaGreatDoorW.PrintLast YtaplpeoikebedaaGreatDoorW.PrintMore
open See Mem Page PageL Disk RecD Dirty Pool2 SysD SysM Pager StoreD StoreF StoreI StoreJ FwdM FwdP BackM BackE ValD MasC CkptD CkptM CkptK
section
variable {n cp bp bm sp lp pp dp qp mp : Nat} {blocks frames : Int} {B : BSt} {m : Mst} {w : World} {a : Nat → Addr}
theorem pg_put {N mm k : Nat} {f : Int → Int} {P bl : Int} (h : CkM (fun j => n ≤ j) w cp bp bm sp lp pp dp qp mp blocks frames B m) (hn : n ≤ w.heap.size) (hk : KSt N mm k f P bl B.F) (hk19 : k < 19) (hf : is64 (f k)) (hfr : 2 ≤ bl - 2 * (k : Int)) (hmm : mm ≤ 30000) (hS : SentsAll w a) (hO : OutAll (fun j => n ≤ j) a) :
    Calls Tryz.prog 33 #[.pointer (some ⟨bp, 0, none⟩), .int .i64 0, .int .i64 k, .int .i64 (f k), .int .i64 k] w fun e w' => e = .returned (.tuple #[.int .i64 0, .bool false, .nilIface]) ∧ ∃ B', KSt N (mm + 1) (k + 1) f P bl B'.F ∧ CkM (fun j => n ≤ j) w' cp bp bm sp lp pp dp qp mp blocks frames B' m ∧ Below n w w' := by
  obtain ⟨R, h⟩ := h
  obtain ⟨F', e1, e2⟩ := k_put hk (hint := (k : Int)) hk19 hf hfr
  obtain ⟨ch, hok⟩ := hk.ok
  obtain ⟨s1, s2, s3, s4, s5⟩ := hk.same
  refine (bput_calls a R bp bm sp lp pp dp qp mp blocks frames B 0 k (f k) k N mm ch _ (fun _ => 0) F' 0 false w h.b e1 hok hk.kok rfl hS (OutAll.sub hO fun j hj => (h.r j hj).1) (by decide) (by rw [s2]; decide) (by rw [s2]; decide) (by rw [s4]; exact hk.has_) (by omega) (by omega) (by have := hk.kl; omega) hmm (by omega) (by omega) hf).mono ?_
  rintro e w' ⟨rfl, hp⟩
  exact ⟨rfl, ⟨F', B.sv, B.nu⟩, e2, ck_up (h.bk hp) hn⟩
theorem pg_get {N mm : Nat} {f : Int → Option Int} {k : Int} (h : CkM (fun j => n ≤ j) w cp bp bm sp lp pp dp qp mp blocks frames B m) (hn : n ≤ w.heap.size) (hr : RSt N mm f B.F) (hmm : mm ≤ 30000) (k0 : 0 ≤ k) (k1 : k < 1048576) (hS : SentsAll w a) (hO : OutAll (fun j => n ≤ j) a) :
    Calls Tryz.prog 36 #[.pointer (some ⟨bp, 0, none⟩), .int .i64 0, .int .i64 k, .int .i64 k] w fun e w' => e = .returned (.tuple #[.int .i64 ((f k).getD 0), .bool (f k).isSome, .nilIface]) ∧ ∃ B', RSt N (mm + 1) f B'.F ∧ CkM (fun j => n ≤ j) w' cp bp bm sp lp pp dp qp mp blocks frames B' m ∧ Below n w w' := by
  obtain ⟨R, h⟩ := h
  obtain ⟨ch, kp, hok⟩ := hr.ok
  obtain ⟨q1, q2, q3, q4⟩ := r_get hr k k
  have hl := hr.kl
  have := bget_calls a R bp bm sp lp pp dp qp mp blocks frames B 0 k k _ _ _ _ w h.b hok q2 hS (OutAll.sub hO fun j hj => (h.r j hj).1) (by decide) (by rw [hr.sess]; decide) (by rw [hr.sess]; decide) hr.has_ k0 k1 (by omega) (by omega) (by omega) (by omega)
  rw [q3, q4] at this
  refine this.mono ?_
  rintro e w' ⟨rfl, hp⟩
  exact ⟨rfl, ⟨takesF B.F 0 k 1 k, B.sv, B.nu⟩, q1, ck_up (h.bk hp) hn⟩
theorem act_up {N mm : Nat} {f : Int → Option Int} {P : Int} {e : Ending} {w' : World} (h : ActPost (fun j => n ≤ j) cp bp bm sp lp pp dp qp mp blocks frames B m N mm f P w e w') (hn : n ≤ w.heap.size) : e = .returned .nilIface ∧ ∃ B', CSt N (mm + 1) f P B'.F ∧ CkM (fun j => n ≤ j) w' cp bp bm sp lp pp dp qp mp blocks frames B' m ∧ Below n w w' := by
  obtain ⟨rfl, S', h1, h2⟩ := h
  exact ⟨rfl, { B with F := { B.F with S := S' } }, h1, ck_up h2 hn⟩
end
end Go.Proofs.YtaplpeoikebedaaGreatDoor.PagW
namespace Go.Proofs.YtaplpeoikebedaaGreatDoor.WalkCkptPages
open Go.RowKit Go.Maps YtaplpeoikebedaaGreatDoorW.PrintWords YtaplpeoikebedaaGreatDoorW.PrintLast YtaplpeoikebedaaGreatDoorW.PrintMore
open See Mem Page PageL Disk DiskN RecD Dirty Pool2 Pool3 Wal Fresh Num SysD SysM StoreD StoreF StoreI StoreJ StoreK SpaceT FwdM FwdP FwdB First17 BackM BackN ValD MasC CkptD CkptM CkptK CkptN First19 PagW
attribute [local go_sem] max2_imax min2_imin max_two min_two
theorem is64_wrap (x : Int) : is64 (IntKind.i64.wrap x) := by
  unfold is64
  rw [IntKind.wrap_i64]
  omega
def pgF (v : Int) (j : Int) : Int := IntKind.i64.wrap (v + j)
def pgV (v : Int) (j : Int) : Option Int := if 0 ≤ j ∧ j < ((12 : Nat) : Int) then some (pgF v j) else none
theorem wf64c {n : Int} (h : (Lit.int .i64 n).wf = true) : -9223372036854775808 ≤ n ∧ n ≤ 9223372036854775807 := by
  simp [Lit.wf, IntKind.min, IntKind.max, IntKind.signed, IntKind.bits] at h; omega
theorem rd_mem {xs : List Int} {i : Int} {n : Nat} (hn : xs.length = n) (h0 : 0 ≤ i) (h1 : i < n) : rd xs i ∈ xs := by
  unfold rd
  rw [List.getD_eq_getElem?_getD, List.getElem?_eq_getElem (by omega)]
  exact List.getElem_mem _
theorem pages_calls (A : Option Addr) (cap : Nat) (xs : List Int) (hc : xs.length ≤ cap) (hm : xs.length ≤ maxLen) (hwf : ∀ x ∈ xs, (Lit.int .i64 x).wf = true) (v : Int) (hv1 : -9223372036854775808 ≤ v) (hv2 : v ≤ 9223372036854775807) (a : Nat → Addr) (w : World) (hs : SentsK (List.range 18) w a) (hr : ReadsInt w .i64 A xs.length xs) :
    Calls Tryz.prog 11 #[.slice A xs.length cap, .int .i64 v] w fun e w' => e = .returned (.bool true) ∧ Below w.heap.size w w' := by
  unfold maxLen at hm
  have HS := Aside0.mk hs.all
  have HRD := Aside0.mk hr
  have HWF := Aside0.mk hwf
  obtain ⟨n, hn⟩ : ∃ n, xs.length = n := ⟨_, rfl⟩
  have HN := Aside0.mk hn
  rw [hn] at hm hr ⊢
  clear hs hr hn hc hwf
  by_cases h30 : (30 : Int) < (n : Int)
  · go_enter Tryz.func11, Tryz.ntmps11
    go_wp2_with fail
    refine (first19_calls a _ HS.out).mono ?_
    rintro e w1 ⟨rfl, hb⟩
    go_wp2_with fail
    go_ret
    exact ⟨rfl, hb⟩
  · go_enter Tryz.func11, Tryz.ntmps11
    go_wp2_with fail
    refine (first19_calls a _ HS.out).mono ?_
    rintro e w1 ⟨rfl, hb⟩
    have HBA := Aside0.mk hb
    have HS1 := Aside0.mk (HS.out.below hb)
    have HO := Aside0.mk (out_all HS1.out)
    clear hb
    go_wp2_with fail
    refine (made19_calls 5 20 2 1 (by omega) (by omega) (by omega) w1).mono ?_
    rintro e w2 ⟨cp, bp, bm, sp, lp, pp, dp, qp, mp, q, rfl, hck, hb⟩
    have HCK := Aside0.mk hck
    have HB := Aside0.mk hb
    have HOK := Aside0.mk (new_ok (P := 5) (blocks := 20) (frames := 2) (sess := 1) 0 (by omega) (by omega) (by omega))
    obtain ⟨⟨k0, hcl⟩, b0, hbl⟩ := ck_box hck
    clear hck hb
    go_wp2_with fail
    refine (ckbegin a w1.heap.size cp bp bm sp lp pp dp qp mp 20 2 _ _ _ 0 _ _ w2 HCK.out HB.out.size HOK.out (HS1.out.below HB.out) HO.out (by decide) (by decide) rfl (by decide) (by decide)).mono ?_
    rintro e w3 ⟨rfl, hck, hb⟩
    have HCK3 := Aside0.mk hck
    have HB3 := Aside0.mk (HB.out.trans hb)
    have HK3 := Aside0.mk (show KSt (1 + 5 + 20 : Int).toNat 0 0 (pgF v) 5 117 (beginF (newF 5 20 2 1) 0) from k_start 5 20 2 (pgF v) (by omega) (by omega) (by omega))
    clear hck hb k0 hcl b0 hbl
    go_wp2_with fail
    go_loopg [9] 13 (fun kq v9 w' => ∃ (k : Int) (B : BSt), v9 = .int .i64 k ∧ Aside0 (0 ≤ k ∧ k ≤ 12 ∧ (kq : Int) = 13 - k) ∧ Aside0 (KSt (1 + 5 + 20 : Int).toNat k.toNat k.toNat (pgF v) 5 117 B.F) ∧ Aside0 (CkM (fun j => w1.heap.size ≤ j) w' cp bp bm sp lp pp dp qp mp 20 2 B ⟨1, 0, 1, 0, 5, 20, 2⟩) ∧ Aside0 (Below w1.heap.size w1 w'))
    case atStart => exact ⟨0, { newB (newF 5 20 2 1) with F := beginF (newF 5 20 2 1) 0 }, rfl, ⟨by omega, by omega, by omega⟩, HK3, HCK3, HB3⟩
    case round =>
      clear HK3 HCK3 HB3 HCK HB HOK
      obtain ⟨k, B, rfl, HI, HK, HC, HB⟩ := hrel
      have hk0 : 0 ≤ k := HI.out.1
      by_cases hlt : k < 12
      · obtain ⟨u, hu⟩ : ∃ u, IntKind.i64.wrap (v + k) = u := ⟨_, rfl⟩
        have hwk : IntKind.i64.wrap (k + 1) = k + 1 := by rw [IntKind.wrap_i64]; omega
        have hkk : ((k.toNat : Nat) : Int) = k := by omega
        have HPU := Aside0.mk (by
          have := pg_put HC.out HB.out.size HK.out (by omega) (is64_wrap _) (by omega) (by omega) (HS1.out.below HB.out) HO.out
          rw [hkk] at this
          unfold pgF at this
          rw [hu] at this
          exact this)
        obtain ⟨⟨k0, hcl⟩, b0, hbl⟩ := ck_box HC.out
        go_wp2_with fail
        refine HPU.out.mono ?_
        rintro e w4 ⟨rfl, B4, hk4, hc4, hb4⟩
        have HK4 := Aside0.mk (show KSt (1 + 5 + 20 : Int).toNat (k + 1).toNat (k + 1).toNat (pgF v) 5 117 B4.F from by rw [show (k + 1).toNat = k.toNat + 1 by omega]; exact hk4)
        have HC4 := Aside0.mk hc4
        have HB4 := Aside0.mk (HB.out.trans hb4)
        clear hk4 hc4 hb4 k0 hcl b0 hbl HPU
        go_wp2_with fail
        go_roundg (gk - 1)
        case measure => have := HI.out; omega
        case rel => exact ⟨k + 1, B4, rfl, ⟨by omega, by omega, by have := HI.out; omega⟩, HK4, HC4, HB4⟩
      · have HR2 := Aside0.mk (show CSt (1 + 5 + 20 : Int).toNat 24 (pgV v) 5 B.F from by
          have := HK.out
          rw [show k.toNat = 12 by have := HI.out; omega] at this
          exact k_read this (by omega))
        go_wp2_with fail
        go_loopg [13] (n + 1) (fun kq v13 w' => ∃ (i : Int) (B : BSt), v13 = .int .i64 i ∧ Aside0 (0 ≤ i ∧ i ≤ n ∧ (kq : Int) = n + 1 - i) ∧ Aside0 (CSt (1 + 5 + 20 : Int).toNat (24 + i.toNat) (pgV v) 5 B.F) ∧ Aside0 (CkM (fun j => w1.heap.size ≤ j) w' cp bp bm sp lp pp dp qp mp 20 2 B ⟨1, 0, 1, 0, 5, 20, 2⟩) ∧ Aside0 (Below w1.heap.size w1 w'))
        case atStart => exact ⟨0, _, rfl, ⟨by omega, by omega, by omega⟩, HR2, HC, HB⟩
        case round =>
          clear HR2 HC HB HK HI
          obtain ⟨i, B, rfl, HI, HR, HC, HB⟩ := hrel
          have hi0 : 0 ≤ i := HI.out.1
          by_cases hlt : i < n
          · obtain ⟨ad, e, hc⟩ := (HRD.out.below (below_step HBA.out HB.out)).at_ i hi0 (by have := HN.out; omega)
            subst e
            have HXB := Aside0.mk (wf64c (HWF.out _ (rd_mem HN.out hi0 hlt)))
            obtain ⟨x, hx⟩ : ∃ x, rd xs i = x := ⟨_, rfl⟩
            rw [hx] at hc HXB
            obtain ⟨p28, hp28⟩ : ∃ k, x % 28 = k := ⟨_, rfl⟩
            have HP28 := Aside0.mk hp28
            obtain ⟨pn, hpn⟩ : ∃ k, p28 / 4 = k := ⟨_, rfl⟩
            have hpb : 0 ≤ p28 ∧ p28 < 28 := by omega
            have hquo : p28.tdiv 4 = pn := by rw [Int.tdiv_eq_ediv_of_nonneg hpb.1]; exact hpn
            have hwi : IntKind.i64.wrap (i + 1) = i + 1 := by rw [IntKind.wrap_i64]; omega
            have hwp : IntKind.i64.wrap pn = pn := by rw [IntKind.wrap_i64]; omega
            clear hx hp28 hpn
            go_wp2_with fail
            refine (num_at _ _ _ (by omega) (by omega) HP28.out _).mono ?_
            rintro e w' ⟨rfl, rfl⟩
            go_wp2_with fail
            · by_cases hpr : 1 ≤ pn ∧ pn ≤ 5
              · obtain ⟨hp1, hp5⟩ := hpr
                refine (prefetch_calls a _ cp bp bm sp lp pp dp qp mp 20 2 B _ _ _ _ 5 wr pn i hp1 hp5 rfl (by omega) (by omega) HC.out HR.out (by omega) (HS1.out.below HB.out) HO.out).mono ?_
                rintro e w4 hp
                obtain ⟨rfl, B4, hr4, hc4, hb4⟩ := act_up hp HB.out.size
                have HR4 := Aside0.mk (show CSt (1 + 5 + 20 : Int).toNat (24 + (i + 1).toNat) (pgV v) 5 B4.F from by rw [show 24 + (i + 1).toNat = 24 + i.toNat + 1 by omega]; exact hr4)
                have HC4 := Aside0.mk hc4
                have HB4 := Aside0.mk (HB.out.trans hb4)
                clear hp hr4 hc4 hb4
                go_wp2_with fail
                go_roundg (gk - 1)
                case measure => have := HI.out; omega
                case rel => exact ⟨i + 1, B4, rfl, ⟨by omega, by omega, by have := HI.out; omega⟩, HR4, HC4, HB4⟩
              · have hd1 : (decide (pn ≥ 1) && decide (pn ≤ 5)) = false := by simp; omega
                refine (prefetch_range a _ cp bp bm sp lp pp dp qp mp 20 2 B _ 5 wr pn i (by omega) rfl HC.out (HS1.out.below HB.out)).mono ?_
                rintro e w4 ⟨rfl, hb4⟩
                have HC4 := Aside0.mk (HC.out.below hb4)
                have HB4 := Aside0.mk (below_step HB.out hb4)
                clear hb4
                have HIS := Aside0.mk (is_calls a (errv a (some 1)) 102 (.inr ⟨1, by decide, rfl, by decide⟩) 102 w4 (HS1.out.below HB4.out))
                rw [show ((102 : Int) == 102) = true from by decide] at HIS
                have HR4 := Aside0.mk (show CSt (1 + 5 + 20 : Int).toNat (24 + (i + 1).toNat) (pgV v) 5 B.F from by
                  obtain ⟨⟨⟨ch, kp, o1⟩, o2, o3, o4, o5, o6⟩, q2, q3, q4⟩ := HR.out
                  exact ⟨⟨⟨ch, kp, FOk.loosen o1 (by omega)⟩, o2, Nat.le_trans o3 (by omega), o4, o5, o6⟩, q2, q3, q4⟩)
                rcases (show pn < 1 ∨ 5 < pn by omega) with hlo | hhi
                · go_wp2_with fail
                  refine HIS.out.mono ?_
                  rintro e w5 ⟨rfl, hb5⟩
                  have HC5 := Aside0.mk (HC4.out.below hb5)
                  have HB5 := Aside0.mk (below_step HB4.out hb5)
                  clear hb5
                  go_wp2_with fail
                  go_roundg (gk - 1)
                  case measure => have := HI.out; omega
                  case rel => exact ⟨i + 1, B, rfl, ⟨by omega, by omega, by have := HI.out; omega⟩, HR4, HC5, HB5⟩
                · go_wp2_with fail
                  refine HIS.out.mono ?_
                  rintro e w5 ⟨rfl, hb5⟩
                  have HC5 := Aside0.mk (HC4.out.below hb5)
                  have HB5 := Aside0.mk (below_step HB4.out hb5)
                  clear hb5
                  go_wp2_with fail
                  go_roundg (gk - 1)
                  case measure => have := HI.out; omega
                  case rel => exact ⟨i + 1, B, rfl, ⟨by omega, by omega, by have := HI.out; omega⟩, HR4, HC5, HB5⟩
            · refine (ckevict_calls a _ cp bp bm sp lp pp dp qp mp 20 2 B _ _ _ _ 5 wr x HXB.out.1 HXB.out.2 HC.out HR.out (by omega) (HS1.out.below HB.out) HO.out).mono ?_
              rintro e w4 hp
              obtain ⟨rfl, B4, hr4, hc4, hb4⟩ := act_up hp HB.out.size
              have HR4 := Aside0.mk (show CSt (1 + 5 + 20 : Int).toNat (24 + (i + 1).toNat) (pgV v) 5 B4.F from by rw [show 24 + (i + 1).toNat = 24 + i.toNat + 1 by omega]; exact hr4)
              have HC4 := Aside0.mk hc4
              have HB4 := Aside0.mk (HB.out.trans hb4)
              clear hp hr4 hc4 hb4
              go_wp2_with fail
              go_roundg (gk - 1)
              case measure => have := HI.out; omega
              case rel => exact ⟨i + 1, B4, rfl, ⟨by omega, by omega, by have := HI.out; omega⟩, HR4, HC4, HB4⟩
            · refine (ckflush_calls a _ cp bp bm sp lp pp dp qp mp 20 2 B _ _ _ _ 5 wr pn HC.out HR.out (by omega) (HS1.out.below HB.out) HO.out).mono ?_
              rintro e w4 hp
              obtain ⟨rfl, B4, hr4, hc4, hb4⟩ := act_up hp HB.out.size
              have HR4 := Aside0.mk (show CSt (1 + 5 + 20 : Int).toNat (24 + (i + 1).toNat) (pgV v) 5 B4.F from by rw [show 24 + (i + 1).toNat = 24 + i.toNat + 1 by omega]; exact hr4)
              have HC4 := Aside0.mk hc4
              have HB4 := Aside0.mk (HB.out.trans hb4)
              clear hp hr4 hc4 hb4
              go_wp2_with fail
              go_roundg (gk - 1)
              case measure => have := HI.out; omega
              case rel => exact ⟨i + 1, B4, rfl, ⟨by omega, by omega, by have := HI.out; omega⟩, HR4, HC4, HB4⟩
            · refine (ckall_calls a _ cp bp bm sp lp pp dp qp mp 20 2 B _ _ _ _ 5 wr HC.out HR.out (by omega) (HS1.out.below HB.out) HO.out).mono ?_
              rintro e w4 hp
              obtain ⟨rfl, B4, hr4, hc4, hb4⟩ := act_up hp HB.out.size
              have HR4 := Aside0.mk (show CSt (1 + 5 + 20 : Int).toNat (24 + (i + 1).toNat) (pgV v) 5 B4.F from by rw [show 24 + (i + 1).toNat = 24 + i.toNat + 1 by omega]; exact hr4)
              have HC4 := Aside0.mk hc4
              have HB4 := Aside0.mk (HB.out.trans hb4)
              clear hp hr4 hc4 hb4
              go_wp2_with fail
              go_roundg (gk - 1)
              case measure => have := HI.out; omega
              case rel => exact ⟨i + 1, B4, rfl, ⟨by omega, by omega, by have := HI.out; omega⟩, HR4, HC4, HB4⟩
          · have HR3 := Aside0.mk (show RSt (1 + 5 + 20 : Int).toNat 60 (pgV v) B.F from by
              obtain ⟨⟨ch, kp, o1⟩, o2, o3, o4, o5, o6⟩ := HR.out.r
              exact ⟨⟨ch, kp, FOk.loosen o1 (by have := HI.out; omega)⟩, o2, Nat.le_trans o3 (by have := HI.out; omega), o4, o5, o6⟩)
            go_wp2_with fail
            go_loopg [16] 13 (fun kq v16 w' => ∃ (k : Int) (B : BSt), v16 = .int .i64 k ∧ Aside0 (0 ≤ k ∧ k ≤ 12 ∧ (kq : Int) = 13 - k) ∧ Aside0 (RSt (1 + 5 + 20 : Int).toNat (60 + k.toNat) (pgV v) B.F) ∧ Aside0 (CkM (fun j => w1.heap.size ≤ j) w' cp bp bm sp lp pp dp qp mp 20 2 B ⟨1, 0, 1, 0, 5, 20, 2⟩) ∧ Aside0 (Below w1.heap.size w1 w'))
            case atStart => exact ⟨0, _, rfl, ⟨by omega, by omega, by omega⟩, HR3, HC, HB⟩
            case round =>
              clear HR3 HR HC HB HI
              obtain ⟨k, B, rfl, HI, HR, HC, HB⟩ := hrel
              have hk0 : 0 ≤ k := HI.out.1
              by_cases hlt : k < 12
              · obtain ⟨u, hu⟩ : ∃ u, IntKind.i64.wrap (v + k) = u := ⟨_, rfl⟩
                have hwk : IntKind.i64.wrap (k + 1) = k + 1 := by rw [IntKind.wrap_i64]; omega
                have HGE := Aside0.mk (by
                  have := pg_get HC.out HB.out.size HR.out (by omega) hk0 (by omega) (HS1.out.below HB.out) HO.out
                  rw [show pgV v k = some u from by unfold pgV pgF; rw [if_pos (by omega), hu]] at this
                  exact this)
                obtain ⟨⟨k0, hcl⟩, b0, hbl⟩ := ck_box HC.out
                go_wp2_with fail
                refine HGE.out.mono ?_
                rintro e w4 ⟨rfl, B4, hr4, hc4, hb4⟩
                have HR4 := Aside0.mk (show RSt (1 + 5 + 20 : Int).toNat (60 + (k + 1).toNat) (pgV v) B4.F from by rw [show 60 + (k + 1).toNat = 60 + k.toNat + 1 by omega]; exact hr4)
                have HC4 := Aside0.mk hc4
                have HB4 := Aside0.mk (HB.out.trans hb4)
                clear hr4 hc4 hb4 k0 hcl b0 hbl HGE
                simp only [Option.getD_some, Option.isSome_some]
                go_wp2_with fail
                go_roundg (gk - 1)
                case measure => have := HI.out; omega
                case rel => exact ⟨k + 1, B4, rfl, ⟨by omega, by omega, by have := HI.out; omega⟩, HR4, HC4, HB4⟩
              · go_wp2_with fail
                go_ret
                exact ⟨rfl, below_step HBA.out HB.out⟩
end Go.Proofs.YtaplpeoikebedaaGreatDoor.WalkCkptPages
