/- Joined texts: WalkBackFull. No condition but what each says. -/
import Derived.Test.YtaplpeoikebedaaGreatDoorU39
import Derived.Test.YtaplpeoikebedaaGreatDoorU41
import Derived.Test.YtaplpeoikebedaaGreatDoorU42
import Derived.Test.YtaplpeoikebedaaGreatDoorU18
set_option maxHeartbeats 8000000
set_option maxRecDepth 100000
set_option linter.unusedVariables false
set_option linter.unusedSimpArgs false
namespace Go.Proofs.YtaplpeoikebedaaGreatDoor.WalkBackFull
open Go.RowKit Go.Maps YtaplpeoikebedaaGreatDoorW.PrintWords YtaplpeoikebedaaGreatDoorW.PrintLast YtaplpeoikebedaaGreatDoorW.PrintMore
open See Mem Page PageL Disk DiskN RecD Dirty Pool2 Pool3 PoolG Wal Fresh Num SysD SysM FlushG Pager StoreD PageM StoreF StoreI StoreJ StoreK StoreW RoomD SpaceT FwdM FwdP FwdB FwdU StoreV FwdK First17 BackL BackM BackW BackV BackU BackB BackE BackN BackQ First18 TwiceD FullD FullE RefF
attribute [local go_sem] max2_imax min2_imin max_two min_two
theorem get_full {a : Nat → Addr} {n0 : Nat} {bp bm sp lp pp dp qp mp : Nat} {blocks frames : Int} {B : BSt} {w : World} (h : BkM (fun k => n0 ≤ k) w bp bm sp lp pp dp qp mp blocks frames B) (hd : DSt B.F) (hs : SentsAll w a) (hO : OutAll (fun k => n0 ≤ k) a) (hn : n0 ≤ w.heap.size) :
    Calls Tryz.prog 37 #[.pointer (some ⟨pp, 0, none⟩), .int .i64 1, .int .i64 0] w fun e w' => ∃ l0 A c, e = .returned (.tuple #[.agg #[.int .i64 l0, .slice A (cur B.F.S 1).2.length c], .nilIface]) ∧ P2 w' 169 (.slice A (cur B.F.S 1).2.length c) (cur B.F.S 1).2 ∧ Below n0 w w' := by
  obtain ⟨R, sl, h⟩ := h
  obtain ⟨N, hpg⟩ := hd.pg
  obtain ⟨S', e1, e2, e3, e4⟩ := pg_get (n := 1) 0 hpg (by decide) (by decide)
  have hg := get_pool a R pp lp dp B.F.S 1 0 w (hs.k _ (by decide)) ((OutAll.sub (M' := R) hO fun k hk => (h.r k hk).1).k _ (by decide)) h.f.sys hd.loose (by decide) (by decide)
  refine hg.mono fun e w' => ?_
  rintro ⟨v, ev, rfl, hp, hv, hx, hf⟩
  rw [e1] at hp hv ⊢
  have hev : ev = .nilIface := hv
  subst hev
  obtain ⟨A, c, rfl, _⟩ := ow_slice hp.1
  exact ⟨_, A, c, rfl, hp, (Kp.of_frm hf (by decide)).below (fun k hk => (h.r k hk).1) hn⟩
theorem toNat_cast {i : Int} (h : 0 ≤ i) : ((i.toNat : Nat) : Int) = i := by omega
theorem full_calls (n0 : Int) (order : Bool) (a : Nat → Addr) (w : World) (hs : SentsK (List.range 18) w a) :
    Calls Tryz.prog 9 #[.int .i64 n0, .bool order] w fun e w' => e = .returned (.bool true) ∧ Below w.heap.size w w' := by
  have HS := Aside0.mk hs.all
  obtain ⟨n8, hn8⟩ : ∃ x, n0 % 20 = x := ⟨_, rfl⟩
  have hn : 0 ≤ n8 ∧ n8 < 20 := by omega
  obtain ⟨n, hnn⟩ : ∃ x, n8 + 1 = x := ⟨_, rfl⟩
  have hw0 : IntKind.i64.wrap (n8 + 1) = n := by rw [IntKind.wrap_i64]; omega
  have HN := Aside0.mk (show 1 ≤ n ∧ n ≤ 20 by omega)
  clear hs hn hnn
  go_enter Tryz.func9, Tryz.ntmps9
  go_wp2_with fail
  refine (first18_calls a _ HS.out).mono ?_
  rintro e w1 ⟨rfl, hb⟩
  have HB1 := Aside0.mk hb
  have HS1 := Aside0.mk (HS.out.below hb)
  clear hb
  go_wp2_with fail
  refine (num_calls n0 20 (by decide) (by decide) _).mono ?_
  rintro e w' ⟨rfl, rfl⟩
  rw [hn8]
  clear hn8
  go_wp2_with fail
  refine (made18_calls 1 60 1 3 (by omega) (by omega) (by omega) w1).mono ?_
  rintro e w2 ⟨bp, bm, sp, lp, pp, dp, qp, mp, q, rfl, hbk, hb⟩
  have HO := Aside0.mk (out_all HS1.out)
  have HBB2 := Aside0.mk hb
  obtain ⟨R2, sl2, h2⟩ := hbk
  have H2 := Aside0.mk h2
  obtain ⟨c0, _⟩ := h2.cells
  have hbl := heap_lt h2.box
  have HOK := Aside0.mk (new_ok (P := 1) (blocks := 60) (frames := 1) (sess := 3) 0 (by omega) (by omega) (by omega))
  clear h2 hb
  go_wp2_with fail
  refine (begin_calls a R2 sp lp pp dp qp mp 60 1 (newF 1 60 1 3) 0 _ 0 _ _ _ H2.out.f HOK.out (HS1.out.below HBB2.out) (OutAll.sub (M' := R2) HO.out fun k hk => (H2.out.r k hk).1) (by decide) (by decide) (by decide) rfl (by decide)).mono ?_
  rintro e w3 hpost
  rcases hpost with ⟨_, rfl, hpost⟩ | ⟨hlt, _, _⟩
  case inr => exact absurd hlt (by decide)
  obtain ⟨hk3, hb3⟩ := bk_up (H2.out.fw hpost) HBB2.out.size
  have HBK3 := Aside0.mk (show BkM (fun k => w1.heap.size ≤ k) w3 bp bm sp lp pp dp qp mp 60 1 ⟨beginF (newF 1 60 1 3) 0, fun _ => ⟨0, []⟩, 0⟩ from hk3)
  have HB3 := Aside0.mk (HBB2.out.trans hb3)
  clear hpost hk3 hb3 c0 hbl
  go_wp2_with fail
  go_loopg [10] 21 (fun kq v10 w' => ∃ (i : Int) (F : FS), v10 = .int .i64 i ∧ Aside0 (0 ≤ i ∧ i ≤ 20 ∧ (kq : Int) = 21 - i) ∧ Aside0 (ASt (1 + 1 + 60 : Int).toNat i.toNat i.toNat F) ∧ Aside0 (BkM (fun k => w1.heap.size ≤ k) w' bp bm sp lp pp dp qp mp 60 1 ⟨F, fun _ => ⟨0, []⟩, 0⟩) ∧ Aside0 (Below w1.heap.size w1 w'))
  case atStart => exact ⟨0, _, rfl, ⟨by omega, by omega, by omega⟩, ⟨a_start⟩, HBK3, HB3⟩
  case round =>
    clear HBK3 HB3
    obtain ⟨i, F, rfl, HI, HA, HBK, HB⟩ := hrel
    have hi0 : 0 ≤ i := HI.out.1
    by_cases hlt : i < 20
    · have hwi : IntKind.i64.wrap (i + 1) = i + 1 := by rw [IntKind.wrap_i64]; omega
      obtain ⟨F', hput, ha'⟩ := a_put HA.out (by omega)
      obtain ⟨ch, hok⟩ := HA.out.ok
      obtain ⟨s1, s2, s3, s4, s5, s6, s7⟩ := HA.out.same
      rw [toNat_cast hi0] at hput
      have HPU := Aside0.mk (bput_calls a _ bp bm sp lp pp dp qp mp 60 1 ⟨F, fun _ => ⟨0, []⟩, 0⟩ 0 i i 0 _ _ _ _ (fun _ => 0) F' 0 false wr HBK.out hput hok HA.out.kok rfl (HS1.out.below HB.out) HO.out (by decide) (by show 0 < F.sess; rw [s2]; decide) (by show F.sess ≤ 1000; rw [s2]; decide) (by show thas F.ts (F.of 0) = true; rw [s4]; exact HA.out.has_) (by omega) (by omega) (by have := HA.out.kl; show F.ks.length ≤ _; omega) (by omega) (by decide) (by decide) ⟨by omega, by omega⟩)
      have HA' := Aside0.mk ha'
      clear hput ha' hok s1 s2 s3 s4 s5 s6 s7
      go_wp2_with fail
      refine HPU.out.mono ?_
      rintro e w4 ⟨rfl, hpost⟩
      obtain ⟨hk4, hb4⟩ := bk_up hpost HB.out.size
      have HBK4 := Aside0.mk hk4
      have HB4 := Aside0.mk (HB.out.trans hb4)
      clear hpost hk4 hb4 HPU
      go_wp2_with fail
      go_roundg (gk - 1)
      case measure => have := HI.out; omega
      case rel =>
        have hir : (i + 1).toNat = i.toNat + 1 := by omega
        refine ⟨i + 1, F', rfl, ⟨by omega, by omega, by have := HI.out; omega⟩, ⟨?_⟩, HBK4, HB4⟩
        rw [hir]
        exact HA'.out
    · have hi20 : i = 20 := by have := HI.out; omega
      subst hi20
      have HF := Aside0.mk (a_full HA.out)
      obtain ⟨ch, hok⟩ := HA.out.ok
      obtain ⟨s1, s2, s3, s4, s5, s6, s7⟩ := HA.out.same
      have HSM := Aside0.mk HA.out.same
      have HPU := Aside0.mk (bput_full a _ bp bm sp lp pp dp qp mp 60 1 ⟨F, fun _ => ⟨0, []⟩, 0⟩ 0 99 1 0 _ _ _ _ (fun _ => 0) _ wr HBK.out HF.out hok HA.out.kok rfl (HS1.out.below HB.out) HO.out (by decide) (by show 0 < F.sess; rw [s2]; decide) (by show F.sess ≤ 1000; rw [s2]; decide) (by show thas F.ts (F.of 0) = true; rw [s4]; exact HA.out.has_) (by omega) (by omega) (by have := HA.out.kl; show F.ks.length ≤ _; omega) (by decide) (by decide) (by decide) ⟨by omega, by omega⟩)
      obtain ⟨chC, t2, hall, hid, hof, hB, hfree, hC, hD⟩ := b_start HA.out
      have HT2 := Aside0.mk t2
      have HALL := Aside0.mk hall
      have HID := Aside0.mk hid
      have HOF := Aside0.mk hof
      have HBS := Aside0.mk hB
      have HFREE := Aside0.mk hfree
      have HC := Aside0.mk hC
      have HD := Aside0.mk hD
      clear hok s1 s2 s3 s4 s5 s6 s7 t2 hall hid hof hB hfree hC hD
      go_wp2_with fail
      refine HPU.out.mono ?_
      rintro e w4 ⟨rfl, hpost⟩
      obtain ⟨hk4, hb4⟩ := bk_up hpost HB.out.size
      have HB4 := Aside0.mk (HB.out.trans hb4)
      have HBK4 := Aside0.mk hk4
      clear hpost hk4 hb4 HPU
      go_wp2_with fail
      refine (is_calls a (errv a (some 9)) 110 (.inr ⟨9, by decide, rfl, by decide⟩) 110 _ (HS1.out.below HB4.out)).mono ?_
      rintro e w5 ⟨rfl, hb⟩
      obtain ⟨R5, sl5, h5⟩ := HBK4.out.below hb
      have HB5 := Aside0.mk (HB4.out.trans (hb.mono HB4.out.size))
      rw [show ((110 : Int) == 110) = true from by decide]
      obtain ⟨c0, _⟩ := h5.cells
      have hbl := heap_lt h5.box
      have HI5 := Aside0.mk h5
      clear h5 hb HBK4
      have HCM := Aside0.mk (commit_calls a R5 sp lp pp dp qp mp 60 1 (takesF F 0 99 2 0) 0 1 _ _ chC _ w5 HI5.out.f HT2.out (commit_ok (n := 0) HT2.out HID.out HOF.out rfl (fun _ => by decide)) (HS1.out.below HB5.out) (OutAll.sub (M' := R5) HO.out fun k hk => (HI5.out.r k hk).1) (by decide) (by show 0 < F.sess; rw [HSM.out.2.1]; decide) (by show F.sess ≤ 1000; rw [HSM.out.2.1]; decide) HOF.out HID.out (by decide) HALL.out)
      go_wp2_with fail
      refine HCM.out.mono ?_
      rintro e w6 ⟨rfl, hpost⟩
      obtain ⟨hk6, hb6⟩ := bk_up (HI5.out.fw hpost) HB5.out.size
      have HB6 := Aside0.mk (HB5.out.trans hb6)
      obtain ⟨C, hCe⟩ : ∃ C, commitF (takesF F 0 99 2 0) 0 1 ((chC 1).length : Int) = C := ⟨_, rfl⟩
      have hC3 : C.of 1 = 0 ∧ C.of 2 = 0 ∧ C.sess = 3 ∧ C.most = 1 := by
        obtain ⟨s1, s2, s3, s4, s5, s6, s7⟩ := HSM.out
        rw [← hCe]
        refine ⟨?_, ?_, s2, s3⟩
        · show upd F.of 0 0 1 = 0
          unfold upd; rw [if_neg (by decide)]; exact s5
        · show upd F.of 0 0 2 = 0
          unfold upd; rw [if_neg (by decide)]; exact s6
      have hC4 := HC.out
      have hD4 := HD.out
      have hB4 := HBS.out
      have hF4 := HFREE.out
      rw [hCe] at hC4 hD4 hB4 hF4
      obtain ⟨R6, sl6, h6⟩ : BkM (fun k => w1.heap.size ≤ k) w6 bp bm sp lp pp dp qp mp 60 1 ⟨C, fun _ => ⟨0, []⟩, 0⟩ := by rw [← hCe]; exact hk6
      clear hk6 hb6 hpost HCM c0 hbl HI5 HC HD HBS HFREE HT2 HALL HID HOF hCe HF
      have HC3 := Aside0.mk hC3
      have HCK := Aside0.mk hC4
      have HDK := Aside0.mk hD4
      have HBS := Aside0.mk hB4
      have HFREE := Aside0.mk hF4
      obtain ⟨c0, _⟩ := h6.cells
      have hbl := heap_lt h6.box
      have HI6 := Aside0.mk h6
      clear h6 hC3 hC4 hD4 hB4 hF4
      go_wp2_with fail
      refine (begin_calls a R6 sp lp pp dp qp mp 60 1 C 1 _ _ _ _ w6 HI6.out.f HCK.out (HS1.out.below HB6.out) (OutAll.sub (M' := R6) HO.out fun k hk => (HI6.out.r k hk).1) (by decide) (by rw [HC3.out.2.2.1]; decide) (by rw [HC3.out.2.2.1]; decide) HC3.out.1 (by rw [HC3.out.2.2.2]; decide)).mono ?_
      rintro e w7 hpost
      rcases hpost with ⟨_, rfl, hpost⟩ | ⟨hlt7, _, _⟩
      case inr => exact absurd hlt7 (by have := HFREE.out; omega)
      obtain ⟨hk7, hb7⟩ := bk_up (HI6.out.fw hpost) HB6.out.size
      have HB7 := Aside0.mk (HB6.out.trans hb7)
      obtain ⟨R7, sl7, h7⟩ := hk7
      clear hb7 hpost c0 hbl HI6
      obtain ⟨c0, _⟩ := h7.cells
      have hbl := heap_lt h7.box
      have HI7 := Aside0.mk h7
      clear h7
      go_wp2_with fail
      refine (begin_calls a R7 sp lp pp dp qp mp 60 1 (beginF C 1) 2 _ _ _ _ w7 HI7.out.f HDK.out (HS1.out.below HB7.out) (OutAll.sub (M' := R7) HO.out fun k hk => (HI7.out.r k hk).1) (by decide) (by show 2 < C.sess; rw [HC3.out.2.2.1]; decide) (by show C.sess ≤ 1000; rw [HC3.out.2.2.1]; decide) (by show upd C.of 1 (C.most + 1) 2 = 0; unfold upd; rw [if_neg (by decide)]; exact HC3.out.2.1) (by show C.most + 1 < 60000; rw [HC3.out.2.2.2]; decide)).mono ?_
      rintro e w8 hpost
      rcases hpost with ⟨_, rfl, hpost⟩ | ⟨hlt8, _, _⟩
      case inr => exact absurd hlt8 (by have := HFREE.out; show ¬ C.free - 3 < 3; omega)
      obtain ⟨hk8, hb8⟩ := bk_up (HI7.out.fw hpost) HB7.out.size
      have HB8 := Aside0.mk (HB7.out.trans hb8)
      have HBK8 := Aside0.mk hk8
      clear hb8 hk8 hpost c0 hbl HI7 HCK HDK HC3 HFREE HA HSM HBK HB HB4 HB5 HB6 HB7
      go_wp2_with fail
      have h21 : (20 : Int).toNat + 1 = 21 := rfl
      rw [h21] at HBS
      go_loopg [17] (n.toNat + 1) (fun kq v17 w' => ∃ (i : Int) (F : FS) (m : Nat), v17 = .int .i64 i ∧ Aside0 (0 ≤ i ∧ i ≤ n ∧ (kq : Int) = n + 1 - i) ∧ Aside0 (BSt2 (1 + 1 + 60 : Int).toNat m i.toNat F ∧ m ≤ 21 + 2 * i.toNat) ∧ Aside0 (BkM (fun k => w1.heap.size ≤ k) w' bp bm sp lp pp dp qp mp 60 1 ⟨F, fun _ => ⟨0, []⟩, 0⟩) ∧ Aside0 (Below w1.heap.size w1 w'))
      case atStart => exact ⟨0, _, _, rfl, ⟨by omega, by have := HN.out; omega, by have := HN.out; omega⟩, ⟨HBS.out, by decide⟩, HBK8, HB8⟩
      case round =>
        clear HBK8 HB8 HBS
        obtain ⟨i, F, m, rfl, HI, HA, HBK, HB⟩ := hrel
        have hi0 : 0 ≤ i := HI.out.1
        by_cases hlt : i < n
        · have hlt20 : i < 20 := by have := HN.out; omega
          have hwi : IntKind.i64.wrap (i + 1) = i + 1 := by rw [IntKind.wrap_i64]; omega
          have hw200 : IntKind.i64.wrap (200 + i) = 200 + i := by rw [IntKind.wrap_i64]; omega
          obtain ⟨ch, F', hok, hdel, hc, hks, hkt, ch', hok', h3, h2, hr⟩ := b_del HA.out.1 (by omega)
          obtain ⟨hput, hb'⟩ := b_full HA.out.1 (by omega) hc hks hkt hok' h3 h2 hr
          obtain ⟨s1, s2, s3, s4, s5, s6⟩ := HA.out.1.same
          obtain ⟨q1, q2, q3, q4, q5, q6⟩ := hc.same
          rw [toNat_cast hi0] at hdel hput hb'
          have hm := HA.out.2
          have HDE := Aside0.mk (bdel_calls a _ bp bm sp lp pp dp qp mp 60 1 ⟨F, fun _ => ⟨0, []⟩, 0⟩ 1 i 0 _ m ch _ ownB F' i true wr HBK.out hdel hok HA.out.1.kok (by unfold ownB; rw [if_neg (by omega)]) (HS1.out.below HB.out) HO.out (by decide) (by show 1 < F.sess; rw [s2]; decide) (by show F.sess ≤ 1000; rw [s2]; decide) HA.out.1.has_.1 (by omega) (by omega) (by have := HA.out.1.kl; show F.ks.length ≤ _; omega) (by omega) (by decide) (by decide))
          have HPU := Aside0.mk (fun (V : World) (hV : BkM (fun k => w1.heap.size ≤ k) V bp bm sp lp pp dp qp mp 60 1 ⟨F', fun _ => ⟨0, []⟩, 0⟩) (hbV : Below w1.heap.size w1 V) => bput_full a _ bp bm sp lp pp dp qp mp 60 1 ⟨F', fun _ => ⟨0, []⟩, 0⟩ 2 (200 + i) 7 0 _ (m + 1) ch' _ ownB _ V hV hput hok' hks (by unfold ownB; rw [if_pos (by omega)]) (HS1.out.below hbV) HO.out (by decide) (by show 2 < F'.sess; rw [q2, s2]; decide) (by show F'.sess ≤ 1000; rw [q2, s2]; decide) (by
            have := (hok'.t.ofs 2 (by rw [q4, s5]; decide)).2.2
            exact this) (by omega) (by omega) (by
              show F'.ks.length ≤ _
              have h5 : F'.ks.length ≤ F.ks.length + 1 := by rw [hkt]; exact len_takeL _ _ _ _
              have := HA.out.1.kl
              omega) (by omega) (by decide) (by decide) ⟨by omega, by omega⟩)
          have HB' := Aside0.mk hb'
          clear hok hdel hc hks hkt hok' h3 h2 hr hput hb' s1 s2 s3 s4 s5 s6 q1 q2 q3 q4 q5 q6 hm
          go_wp2_with fail
          refine HDE.out.mono ?_
          rintro e w9 ⟨rfl, hpost⟩
          obtain ⟨hk9, hb9⟩ := bk_up hpost HB.out.size
          have HBK9 := Aside0.mk hk9
          have HB9 := Aside0.mk (HB.out.trans hb9)
          clear hpost hk9 hb9 HDE
          go_wp2_with fail
          refine (HPU.out _ HBK9.out HB9.out).mono ?_
          rintro e w10 ⟨rfl, hpost⟩
          obtain ⟨hk10, hb10⟩ := bk_up hpost HB9.out.size
          have HBK10 := Aside0.mk hk10
          have HB10 := Aside0.mk (HB9.out.trans hb10)
          clear hpost hk10 hb10 HPU
          go_wp2_with fail
          refine (is_calls a (errv a (some 9)) 110 (.inr ⟨9, by decide, rfl, by decide⟩) 110 _ (HS1.out.below HB10.out)).mono ?_
          rintro e w11 ⟨rfl, hb⟩
          have HBK11 := Aside0.mk (HBK10.out.below hb)
          have HB11 := Aside0.mk (HB10.out.trans (hb.mono HB10.out.size))
          clear hb
          rw [show ((110 : Int) == 110) = true from by decide]
          go_wp2_with fail
          go_roundg (gk - 1)
          case measure => have := HI.out; omega
          case rel =>
            have hir : (i + 1).toNat = i.toNat + 1 := by omega
            refine ⟨i + 1, _, m + 1 + 1, rfl, ⟨by omega, by omega, by have := HI.out; omega⟩, ⟨?_⟩, HBK11, HB11⟩
            rw [hir]
            exact ⟨HB'.out, by have := HA.out.2; omega⟩
        · have hin : i = n := by have := HI.out; omega
          subst hin
          obtain ⟨ch, hcs, h3, hid3, hof3⟩ := c_of HA.out.1
          have HCS := Aside0.mk hcs
          have HM := Aside0.mk HA.out.2
          have hn20 : i ≤ 20 := HN.out.2
          obtain ⟨s1, s2, s3, s4⟩ := hcs.same
          rcases order with _ | _
          case' false =>
            have HAB := Aside0.mk (abort2_calls a _ bp bm sp lp pp dp qp mp 60 1 ⟨F, fun _ => ⟨0, []⟩, 0⟩ 1 2 0 _ m ch _ wr HBK.out hcs.ok s3 hcs.has_ hcs.kp2 hcs.pos (by rw [hcs.len]; have := HM.out; omega) (by rw [s4]; decide) (HS1.out.below HB.out) HO.out (by decide) (by rw [s2]; decide) (by rw [s2]; decide) (by decide) (by decide))
            clear hcs h3 hid3 hof3 s1 s2 s3 s4
            go_wp2_with fail
            refine HAB.out.mono ?_
            rintro e w9 ⟨rfl, FA, ha, hpost⟩
            have hds := c_one HCS.out (by have := HM.out; omega) ha
            obtain ⟨hk9, hb9⟩ := bk_up hpost HB.out.size
            have HB9 := Aside0.mk (HB.out.trans hb9)
            obtain ⟨BD, hds, hk9⟩ : ∃ BD : BSt, DSt BD.F ∧ BkM (fun k => w1.heap.size ≤ k) w9 bp bm sp lp pp dp qp mp 60 1 BD := ⟨_, hds, hk9⟩
            have HDS := Aside0.mk hds
            have HBK9 := Aside0.mk hk9
            clear ha hpost hk9 hb9 HAB hds
          case' true =>
            have HAB := Aside0.mk (abort2_calls a _ bp bm sp lp pp dp qp mp 60 1 ⟨F, fun _ => ⟨0, []⟩, 0⟩ 2 3 0 _ m ch _ wr HBK.out hcs.ok hof3 hid3 kpB2 kpB_pos (by rw [h3]; have := HM.out; simp; omega) (by rw [s4]; decide) (HS1.out.below HB.out) HO.out (by decide) (by rw [s2]; decide) (by rw [s2]; decide) (by decide) (by decide))
            have H3 := Aside0.mk h3
            clear hcs h3 hid3 hof3 s1 s2 s3 s4
            go_wp2_with fail
            refine HAB.out.mono ?_
            rintro e w8 ⟨rfl, FB, hb, hpost⟩
            have hcs := c_two HCS.out H3.out hb
            obtain ⟨hk8, hb8⟩ := bk_up hpost HB.out.size
            have HB8 := Aside0.mk (HB.out.trans hb8)
            obtain ⟨BC, hF, hkC⟩ : ∃ BC : BSt, BC.F = FB ∧ BkM (fun k => w1.heap.size ≤ k) w8 bp bm sp lp pp dp qp mp 60 1 BC := ⟨_, rfl, hk8⟩
            subst hF
            have HBK8 := Aside0.mk hkC
            have HCS2 := Aside0.mk hcs
            obtain ⟨s1, s2, s3, s4⟩ := hcs.same
            clear hb hpost hk8 hkC hb8 HAB
            have HAB := Aside0.mk (abort2_calls a _ bp bm sp lp pp dp qp mp 60 1 BC 1 2 0 _ m _ _ w8 HBK8.out hcs.ok s3 hcs.has_ hcs.kp2 hcs.pos (by rw [hcs.len]; have := HM.out; omega) (by rw [s4]; decide) (HS1.out.below HB8.out) HO.out (by decide) (by rw [s2]; decide) (by rw [s2]; decide) (by decide) (by decide))
            clear hcs s1 s2 s3 s4
            go_wp2_with fail
            refine HAB.out.mono ?_
            rintro e w9 ⟨rfl, FA, ha, hpost⟩
            have hds := c_one HCS2.out (by have := HM.out; omega) ha
            obtain ⟨hk9, hb9⟩ := bk_up hpost HB8.out.size
            have HB9 := Aside0.mk (HB8.out.trans hb9)
            obtain ⟨BD, hds, hk9⟩ : ∃ BD : BSt, DSt BD.F ∧ BkM (fun k => w1.heap.size ≤ k) w9 bp bm sp lp pp dp qp mp 60 1 BD := ⟨_, hds, hk9⟩
            have HDS := Aside0.mk hds
            have HBK9 := Aside0.mk hk9
            clear ha hpost hk9 hb9 HAB hds HBK8 HB8 HCS2 H3
          all_goals
            clear HBK HB HCS HA HN HI
            have HG := Aside0.mk (fun (V : World) (hV : Below w9.heap.size w9 V) => get_full (a := a) (HBK9.out.below hV) HDS.out (HS1.out.below (HB9.out.trans (hV.mono HB9.out.size))) HO.out (Nat.le_trans HB9.out.size hV.size))
            go_wp2_with fail
            refine (HG.out _ (Below.refl _ _)).mono ?_
            rintro e w10 ⟨l0, A, c, rfl, hp, hb10⟩
            rw [HDS.out.few] at hp ⊢
            have HP := Aside0.mk (hp.below (below_alloc (Below.refl _ _) (.cells #[.int .i64 l0, .slice A 20 c] 74)))
            have HBX := Aside0.mk (below_alloc (HB9.out.trans hb10) (.cells #[.int .i64 l0, .slice A 20 c] 74))
            obtain ⟨gb, hgb⟩ : ∃ gb, w10.heap.size = gb := ⟨_, rfl⟩
            have HPG := Aside0.mk (show (w10.alloc (.cells #[.int .i64 l0, .slice A 20 c] 74)).heap[gb]? = some (.cells #[.int .i64 l0, .slice A 20 c] 74 (0, 0)) from by rw [← hgb]; exact heap_alloc_new _ _)
            obtain ⟨wz, hwz⟩ : ∃ wz, w10.alloc (.cells #[.int .i64 l0, .slice A 20 c] 74) = wz := ⟨_, rfl⟩
            have HWZ := Aside0.mk hwz
            have HGB := Aside0.mk hgb
            rw [hwz] at HP HBX HPG
            obtain ⟨_, _, g0, g1⟩ := Go.Proofs.YtaplpeoikebedaaGreatDoor.FwdT.pg_cells HPG.out
            have hlt10 := heap_lt HPG.out
            clear hp hb10 HG HBK9 hwz hgb
            go_upto_region 29 with fail
            rw [HWZ.out, HGB.out]
            go_wp2_with fail
            go_loopg [26] 21 (fun kq v26 w' => ∃ (i : Int), v26 = .int .i64 i ∧ Aside0 (0 ≤ i ∧ i ≤ 20 ∧ (kq : Int) = 21 - i) ∧ Aside0 (w'.heap[gb]? = some (.cells #[.int .i64 l0, .slice A 20 c] 74 (0, 0))) ∧ Aside0 (P2 w' 169 (.slice A 20 c) (cur BD.F.S 1).2) ∧ Aside0 (Below w1.heap.size w1 w'))
            case atStart => exact ⟨0, rfl, ⟨by omega, by omega, by omega⟩, HPG, HP, HBX⟩
            case round =>
              clear HPG HP HBX g0 g1 hlt10
              obtain ⟨i, rfl, HI, HPG, HP, HBX⟩ := hrel
              obtain ⟨_, _, g0, g1⟩ := Go.Proofs.YtaplpeoikebedaaGreatDoor.FwdT.pg_cells HPG.out
              have hlt10 := heap_lt HPG.out
              have hi0 : 0 ≤ i := HI.out.1
              by_cases hlt2 : i < 20
              · have hwi : IntKind.i64.wrap (i + 1) = i + 1 := by rw [IntKind.wrap_i64]; omega
                have HF := Aside0.mk (rfind_calls l0 _ _ i wr HP.out HDS.out.rise)
                rw [HDS.out.val_ i, show own_ 0 20 i = some i from by unfold own_; rw [if_pos (by omega)]] at HF
                go_wp2_with fail
                refine HF.out.mono ?_
                rintro e w11 ⟨rfl, hb⟩
                have HPG2 := Aside0.mk (cfg_keep HPG.out hb)
                have HP2 := Aside0.mk (HP.out.below hb)
                have HB2 := Aside0.mk (HBX.out.trans (hb.mono HBX.out.size))
                simp only [Option.getD_some, Option.isSome_some]
                clear hb HF
                go_wp2_with fail
                go_roundg (gk - 1)
                case measure => have := HI.out; omega
                case rel => exact ⟨i + 1, rfl, ⟨by omega, by omega, by have := HI.out; omega⟩, HPG2, HP2, HB2⟩
              · have hi20 : i = 20 := by have := HI.out; omega
                subst hi20
                go_wp2_with fail
                go_ret
                exact ⟨rfl, below_step HB1.out HBX.out⟩
end Go.Proofs.YtaplpeoikebedaaGreatDoor.WalkBackFull
