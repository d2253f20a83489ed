/- Joined texts: ValW, WalkBackValues. No condition but what each says. -/
import Derived.Test.YtaplpeoikebedaaGreatDoorV40
import Derived.Test.YtaplpeoikebedaaGreatDoorV36
set_option maxHeartbeats 8000000
set_option maxRecDepth 100000
set_option linter.unusedVariables false
set_option linter.unusedSimpArgs false
namespace Go.Proofs.YtaplpeoikebedaaGreatDoor.ValW
open Go.RowKit Go.Maps YtaplpeoikebedaaGreatDoorW.PrintWords YtaplpeoikebedaaGreatDoorW.PrintLast YtaplpeoikebedaaGreatDoorW.PrintMore
open See Mem Page PageL Disk DiskN RecD Dirty Pool2 Pool3 Wal Fresh Num SysD SysM StoreD StoreF StoreI StoreJ StoreK StoreW RoomD SpaceT FwdM FwdP FwdB FwdU BackL BackM BackA BackW BackV BackU BackB BackE ValM ValD
structure VaR (cut i q : Int) (hs hs0 : Int → Bool) (vl vl0 : Int → Int) (B : BSt) : Prop where
  st : ∃ ch, VSt (1 + 8 + 40 : Int).toNat i.toNat ch hs vl B.F ∧ (cut < q → ∃ c, Mk B.F ch hs0 vl0 c ∧ B.sv 0 = ⟨1, [c.headD 0]⟩)
  sv : q ≤ cut → B.sv 0 = ⟨0, []⟩ ∧ B.nu = 0
  nu : B.nu ≤ 1
theorem VaR.next {cut i : Int} {hs hs0 : Int → Bool} {vl vl0 : Int → Int} {B : BSt} (h : VaR cut i i hs hs0 vl vl0 B) (hne : i ≠ cut) : VaR cut i (i + 1) hs hs0 vl vl0 B := by
  obtain ⟨ch, h1, h2⟩ := h.st
  exact ⟨⟨ch, h1, fun hq => h2 (by omega)⟩, fun hq => h.sv (by omega), h.nu⟩
theorem va_zero {cut : Int} (hc : 0 ≤ cut) : VaR cut 0 0 (fun _ => false) (fun _ => false) (fun _ => 0) (fun _ => 0) ⟨beginF (newF 8 40 2 1) 0, fun _ => ⟨0, []⟩, 0⟩ :=
  ⟨⟨_, v_start, fun hq => by omega⟩, fun _ => ⟨rfl, rfl⟩, by show (0 : Int) ≤ 1; omega⟩
section
variable {n b1 b2 b3 b4 : Nat} {bp bm sp lp pp dp qp mp : Nat} {hs hs0 hs1 hs2 : Int → Bool} {vl vl0 vl1 vl2 : Int → Int} {w0 w : World} {B : BSt} {a : Nat → Addr} {cut i : Int}
theorem va_save (h : VaR cut i i hs hs0 vl vl0 B) (hi : i = cut) (i0 : 0 ≤ i) (hm : VaM n b1 b2 b3 b4 bp bm sp lp pp dp qp mp 40 2 hs1 hs2 vl1 vl2 w0 B w) :
    Calls Tryz.prog 31 #[.pointer (some ⟨bp, 0, none⟩), .int .i64 0] w fun e w' => e = .returned (.tuple #[.int .i64 0, .nilIface]) ∧ ∃ B', VaR cut i (i + 1) hs hs vl vl B' ∧ VaM n b1 b2 b3 b4 bp bm sp lp pp dp qp mp 40 2 hs1 hs2 vl1 vl2 w0 B' w' := by
  obtain ⟨ch, h1, _⟩ := h.st
  obtain ⟨s1, s2, s3, s4, s5⟩ := h1.same
  obtain ⟨t1, t2⟩ := h1.tx
  obtain ⟨v1, v2⟩ := h.sv (by omega)
  have hsv : svOf B 0 1 = [] := by unfold svOf; rw [v1]; rfl
  have := save_calls _ bp bm sp lp pp dp qp mp 40 2 B 0 w hm.bk (by decide) (by rw [s2]; decide) (by rw [s2]; decide) (by rw [s4]; exact h1.has_) h1.ok.t.rise (by rw [s4, t1, hsv]; decide) (by rw [v2]; decide)
  rw [s4, t1, t2, hsv] at this
  refine this.mono ?_
  rintro e w' ⟨rfl, hp⟩
  refine ⟨rfl, ⟨B.F, updS B.sv 0 ⟨1, [] ++ [(ch 1).headD 0]⟩, B.nu + 1⟩, ⟨⟨ch, h1, fun _ => ⟨_, h1.mark, rfl⟩⟩, fun hq => by omega, by show B.nu + 1 ≤ 1; omega⟩, hm.up hp⟩
theorem va_put (h : VaR cut i (i + 1) hs hs0 vl vl0 B) (i0 : 0 ≤ i) (i1 : i < 20) (hm : VaM n b1 b2 b3 b4 bp bm sp lp pp dp qp mp 40 2 hs1 hs2 vl1 vl2 w0 B w) (hS : SentsAll w a) (hO : OutAll (fun k => n ≤ k) a) {k v : Int} (k0 : 0 ≤ k) (k1 : k < 30) (hv : is64 v) :
    Calls Tryz.prog 33 #[.pointer (some ⟨bp, 0, none⟩), .int .i64 0, .int .i64 k, .int .i64 v, .int .i64 i] w fun e w' => ∃ old, e = .returned (.tuple #[.int .i64 old, .bool (hs k), .nilIface]) ∧ ∃ B', VaR cut (i + 1) (i + 1) (fun j => if j = k then true else hs j) hs0 (fun j => if j = k then v else vl j) vl0 B' ∧ VaM n b1 b2 b3 b4 bp bm sp lp pp dp qp mp 40 2 hs1 hs2 vl1 vl2 w0 B' w' := by
  obtain ⟨ch, h1, h2⟩ := h.st
  obtain ⟨s1, s2, s3, s4, s5⟩ := h1.same
  obtain ⟨F', e1, ch', q1, q2⟩ := v_put (hint := i) h1 (by omega) k0 k1 hv
  have := bput_calls a _ bp bm sp lp pp dp qp mp 40 2 B 0 k v i _ _ _ _ _ F' _ _ w hm.bk e1 h1.ok h1.kok rfl hS (OutAll.sub hO fun j hj => hj.1) (by decide) (by rw [s2]; decide) (by rw [s2]; decide) (by rw [s4]; exact h1.has_) k0 (by omega) (by have := h1.kl; omega) (by omega) (by omega) (by omega) hv
  refine this.mono ?_
  rintro e w' ⟨rfl, hp⟩
  refine ⟨_, rfl, ⟨F', B.sv, B.nu⟩, ⟨⟨ch', by rw [show (i + 1).toNat = i.toNat + 1 by omega]; exact q1, fun hq => ?_⟩, fun hq => h.sv hq, h.nu⟩, hm.up hp⟩
  obtain ⟨c, c1, c2⟩ := h2 hq
  exact ⟨c, q2 _ _ _ c1, c2⟩
theorem va_del (h : VaR cut i (i + 1) hs hs0 vl vl0 B) (i0 : 0 ≤ i) (i1 : i < 20) (hm : VaM n b1 b2 b3 b4 bp bm sp lp pp dp qp mp 40 2 hs1 hs2 vl1 vl2 w0 B w) (hS : SentsAll w a) (hO : OutAll (fun k => n ≤ k) a) {k : Int} (k0 : 0 ≤ k) (k1 : k < 30) :
    Calls Tryz.prog 32 #[.pointer (some ⟨bp, 0, none⟩), .int .i64 0, .int .i64 k, .int .i64 i] w fun e w' => ∃ old, e = .returned (.tuple #[.int .i64 old, .bool (hs k), .nilIface]) ∧ ∃ B', VaR cut (i + 1) (i + 1) (fun j => if j = k then false else hs j) hs0 vl vl0 B' ∧ VaM n b1 b2 b3 b4 bp bm sp lp pp dp qp mp 40 2 hs1 hs2 vl1 vl2 w0 B' w' := by
  obtain ⟨ch, h1, h2⟩ := h.st
  obtain ⟨s1, s2, s3, s4, s5⟩ := h1.same
  obtain ⟨F', e1, ch', q1, q2⟩ := v_del (hint := i) h1 (by omega) k0 k1
  have := bdel_calls a _ bp bm sp lp pp dp qp mp 40 2 B 0 k i _ _ _ _ _ F' _ _ w hm.bk e1 h1.ok h1.kok rfl hS (OutAll.sub hO fun j hj => hj.1) (by decide) (by rw [s2]; decide) (by rw [s2]; decide) (by rw [s4]; exact h1.has_) k0 (by omega) (by have := h1.kl; omega) (by omega) (by omega) (by omega)
  refine this.mono ?_
  rintro e w' ⟨rfl, hp⟩
  refine ⟨_, rfl, ⟨F', B.sv, B.nu⟩, ⟨⟨ch', by rw [show (i + 1).toNat = i.toNat + 1 by omega]; exact q1, fun hq => ?_⟩, fun hq => h.sv hq, h.nu⟩, hm.up hp⟩
  obtain ⟨c, c1, c2⟩ := h2 hq
  exact ⟨c, q2 _ _ _ c1, c2⟩
theorem va_back (h : VaR cut i (i + 1) hs hs0 vl vl0 B) (hc : cut ≤ i) (i0 : 0 ≤ i) (i1 : i ≤ 20) (hm : VaM n b1 b2 b3 b4 bp bm sp lp pp dp qp mp 40 2 hs1 hs2 vl1 vl2 w0 B w) (hS : SentsAll w a) (hO : OutAll (fun k => n ≤ k) a) :
    Calls Tryz.prog 35 #[.pointer (some ⟨bp, 0, none⟩), .int .i64 0, .int .i64 0, .int .i64 1] w fun e w' => e = .returned .nilIface ∧ ∃ B', RSt (1 + 8 + 40 : Int).toNat 40 (tab hs0 vl0) B'.F ∧ VaM n b1 b2 b3 b4 bp bm sp lp pp dp qp mp 40 2 hs1 hs2 vl1 vl2 w0 B' w' := by
  obtain ⟨ch, h1, h2⟩ := h.st
  obtain ⟨s1, s2, s3, s4, s5⟩ := h1.same
  obtain ⟨c, c1, c2⟩ := h2 (by omega)
  obtain ⟨p, p1, p2⟩ := c1.at_
  have hl := h1.len
  have hpl : p.length ≤ (ch 1).length := by rw [p1, List.length_append]; omega
  have := back_calls a _ bp bm sp lp pp dp qp mp 40 2 B 0 1 0 1 _ _ _ _ p c w hm.bk h1.ok s4 h1.has_ (by rw [c2]) (by rw [c2]; exact Nat.zero_lt_one) (by decide) (by rw [c2]; rfl) p1 (fun _ => by decide) (by omega) (by rw [s5]; decide) hS (OutAll.sub hO fun j hj => hj.1) (by decide) (by rw [s2]; decide) (by rw [s2]; decide) (by have := h.nu; omega) (by decide) (by decide)
  rw [show ((0 : Nat) : Int) = 0 from rfl] at this
  refine this.mono ?_
  rintro e w' ⟨rfl, F', hu, hp⟩
  have hr := v_back h1 p2 hu (by omega)
  exact ⟨rfl, ⟨F', updS B.sv 0 ⟨1, (B.sv 0).l.take (0 + 1)⟩, B.nu + 1⟩, ⟨by obtain ⟨x, y, z⟩ := hr.ok; exact ⟨x, y, FOk.loosen z (by omega)⟩, hr.own, Nat.le_trans hr.kl (by omega), hr.sess, hr.has_, hr.val_⟩, hm.up hp⟩
structure AbR (F : FS) : Prop where
  ok : ∃ ch kp, FOk (1 + 8 + 40 : Int).toNat 40 ch kp F
  of : F.of 0 = 0
  sess : F.sess = 1
  most : F.most = 1
  free : 3 ≤ F.free
  r : RSt (1 + 8 + 40 : Int).toNat 40 (fun _ => none) (beginF F 0)
theorem va_abort (h : VaR cut i (i + 1) hs hs0 vl vl0 B) (i0 : 0 ≤ i) (i1 : i ≤ 20) (hm : VaM n b1 b2 b3 b4 bp bm sp lp pp dp qp mp 40 2 hs1 hs2 vl1 vl2 w0 B w) (hS : SentsAll w a) (hO : OutAll (fun k => n ≤ k) a) :
    Calls Tryz.prog 34 #[.pointer (some ⟨bp, 0, none⟩), .int .i64 0, .int .i64 0] w fun e w' => e = .returned .nilIface ∧ ∃ B', AbR B'.F ∧ VaM n b1 b2 b3 b4 bp bm sp lp pp dp qp mp 40 2 hs1 hs2 vl1 vl2 w0 B' w' := by
  obtain ⟨ch, h1, h2⟩ := h.st
  obtain ⟨s1, s2, s3, s4, s5⟩ := h1.same
  have hl := h1.len
  have := abort_calls a _ bp bm sp lp pp dp qp mp 40 2 B 0 1 0 _ _ _ _ w hm.bk h1.ok s4 h1.has_ rfl (fun _ => by decide) (fun x hx => (h1.kok.own x hx).symm) (by omega) (by rw [s5]; decide) hS (OutAll.sub hO fun j hj => hj.1) (by decide) (by rw [s2]; decide) (by rw [s2]; decide) (by decide) (by decide)
  refine this.mono ?_
  rintro e w' ⟨rfl, F', hu, hp⟩
  obtain ⟨r1, r2, r3, r4, r5, r6⟩ := v_abort h1 (by omega) hu
  refine ⟨rfl, ⟨F', updS B.sv 0 ⟨0, []⟩, B.nu⟩, ⟨⟨_, _, FOk.loosen r1 (by omega)⟩, r2, r3, r4, r5, ?_⟩, hm.up hp⟩
  obtain ⟨x, y, z⟩ := r6.ok
  exact ⟨⟨x, y, FOk.loosen z (by omega)⟩, r6.own, Nat.le_trans r6.kl (by omega), r6.sess, r6.has_, r6.val_⟩
theorem va_begin (h : AbR B.F) (hm : VaM n b1 b2 b3 b4 bp bm sp lp pp dp qp mp 40 2 hs1 hs2 vl1 vl2 w0 B w) (hS : SentsAll w a) (hO : OutAll (fun k => n ≤ k) a) :
    Calls Tryz.prog 20 #[.pointer (some ⟨sp, 0, none⟩), .int .i64 0] w fun e w' => e = .returned .nilIface ∧ ∃ B', RSt (1 + 8 + 40 : Int).toNat 40 (fun _ => none) B'.F ∧ VaM n b1 b2 b3 b4 bp bm sp lp pp dp qp mp 40 2 hs1 hs2 vl1 vl2 w0 B' w' := by
  obtain ⟨ch, kp, hok⟩ := h.ok
  obtain ⟨R, sl, hbi⟩ := hm.bk
  refine (begin_calls a R sp lp pp dp qp mp 40 2 B.F 0 _ _ _ _ w hbi.f hok hS (OutAll.sub hO fun k hk => (hbi.r k hk).1.1) (by decide) (by rw [h.sess]; decide) (by rw [h.sess]; decide) h.of (by rw [h.most]; decide)).mono ?_
  rintro e w' hpost
  rcases hpost with ⟨_, rfl, hpost⟩ | ⟨hlt, _, _⟩
  · exact ⟨rfl, ⟨beginF B.F 0, B.sv, B.nu⟩, h.r, hm.up (hbi.fw hpost)⟩
  · exact absurd hlt (by have := h.free; omega)
theorem va_get {m : Nat} {f : Int → Option Int} (h : RSt (1 + 8 + 40 : Int).toNat m f B.F) (hmm : m ≤ 100) (hm : VaM n b1 b2 b3 b4 bp bm sp lp pp dp qp mp 40 2 hs1 hs2 vl1 vl2 w0 B w) (hS : SentsAll w a) (hO : OutAll (fun k => n ≤ k) a) {k : Int} (k0 : 0 ≤ k) (k1 : k < 30) :
    Calls Tryz.prog 36 #[.pointer (some ⟨bp, 0, none⟩), .int .i64 0, .int .i64 k, .int .i64 k] w fun e w' => e = .returned (.tuple #[.int .i64 ((f k).getD 0), .bool (f k).isSome, .nilIface]) ∧ ∃ B', RSt (1 + 8 + 40 : Int).toNat (m + 1) f B'.F ∧ VaM n b1 b2 b3 b4 bp bm sp lp pp dp qp mp 40 2 hs1 hs2 vl1 vl2 w0 B' w' := by
  obtain ⟨ch, kp, hok⟩ := h.ok
  obtain ⟨q1, q2, q3, q4⟩ := r_get h k k
  have hl := h.kl
  have := bget_calls a _ bp bm sp lp pp dp qp mp 40 2 B 0 k k _ _ _ _ w hm.bk hok q2 hS (OutAll.sub hO fun j hj => hj.1) (by decide) (by rw [h.sess]; decide) (by rw [h.sess]; decide) h.has_ k0 (by omega) (by omega) (by omega) (by omega) (by omega)
  rw [q3, q4] at this
  refine this.mono ?_
  rintro e w' ⟨rfl, hp⟩
  exact ⟨rfl, ⟨takesF B.F 0 k 1 k, B.sv, B.nu⟩, q1, hm.up hp⟩
end
end Go.Proofs.YtaplpeoikebedaaGreatDoor.ValW
namespace Go.Proofs.YtaplpeoikebedaaGreatDoor.WalkBackValues
open Go.RowKit Go.Maps YtaplpeoikebedaaGreatDoorW.PrintWords YtaplpeoikebedaaGreatDoorW.PrintLast YtaplpeoikebedaaGreatDoorW.PrintMore
open See Mem Page PageL Disk DiskN RecD Dirty Pool2 Pool3 Wal Fresh Num SysD SysM StoreD StoreF StoreI StoreJ StoreK StoreW RoomD SpaceT FwdM FwdP FwdB FwdU First17 BackL BackM BackW BackV BackU BackB BackE BackN First18 ValD ValM ValW
attribute [local go_sem] max2_imax min2_imin max_two min_two
theorem values_calls (A : Option Addr) (cap : Nat) (xs : List Int) (hc : xs.length ≤ cap) (hm : xs.length ≤ maxLen) (cut0 : Int) (ab : Bool) (v : Int) (hv1 : -9223372036854775808 ≤ v) (hv2 : v ≤ 9223372036854775807) (a : Nat → Addr) (w : World) (hs : SentsK (List.range 18) w a) (hr : ReadsInt w .i64 A xs.length xs) :
    Calls Tryz.prog 6 #[.slice A xs.length cap, .int .i64 cut0, .bool ab, .int .i64 v] w fun e w' => e = .returned (.bool true) ∧ Below w.heap.size w w' := by
  unfold maxLen at hm
  have HS := Aside0.mk hs.all
  have HRD := Aside0.mk hr
  obtain ⟨n, hn⟩ : ∃ n, xs.length = n := ⟨_, rfl⟩
  have HN := Aside0.mk hn
  rw [hn] at hm hr ⊢
  clear hs hr hn hc
  by_cases h20 : (20 : Int) < (n : Int)
  · go_enter Tryz.func6, Tryz.ntmps6
    go_wp2_with fail
    refine (first18_calls a _ HS.out).mono ?_
    rintro e w1 ⟨rfl, hb⟩
    go_wp2_with fail
    go_ret
    exact ⟨rfl, hb⟩
  · obtain ⟨cut, hcut⟩ : ∃ c, cut0 % ((n : Int) + 1) = c := ⟨_, rfl⟩
    have HCU := Aside0.mk hcut
    have HC := Aside0.mk (show 0 ≤ cut ∧ cut ≤ n from by
      have h1 := Int.emod_nonneg cut0 (show (n : Int) + 1 ≠ 0 by omega)
      have h2 := Int.emod_lt_of_pos cut0 (show (0 : Int) < (n : Int) + 1 by omega)
      omega)
    have hwn : IntKind.i64.wrap ((n : Int) + 1) = (n : Int) + 1 := by rw [IntKind.wrap_i64]; omega
    clear hcut
    go_enter Tryz.func6, Tryz.ntmps6
    go_wp2_with fail
    refine (first18_calls a _ HS.out).mono ?_
    rintro e w1 ⟨rfl, hb⟩
    have HBA := Aside0.mk hb
    have HS1 := Aside0.mk (HS.out.below hb)
    have HO := Aside0.mk (out_all HS1.out)
    clear hb
    go_wp2_with fail
    refine (made18_calls 8 40 2 1 (by omega) (by omega) (by omega) w1).mono ?_
    rintro e w2 ⟨bp, bm, sp, lp, pp, dp, qp, mp, q, rfl, hbk, hb⟩
    have HBB2 := Aside0.mk hb
    obtain ⟨R2, sl2, h2⟩ := hbk
    have H2 := Aside0.mk h2
    obtain ⟨c0, _⟩ := h2.cells
    have hbl := heap_lt h2.box
    have HOK := Aside0.mk (new_ok (P := 8) (blocks := 40) (frames := 2) (sess := 1) 0 (by omega) (by omega) (by omega))
    clear h2 hb
    go_wp2_with fail
    refine (begin_calls a R2 sp lp pp dp qp mp 40 2 (newF 8 40 2 1) 0 _ 0 _ _ _ H2.out.f HOK.out (HS1.out.below HBB2.out) (OutAll.sub (M' := R2) HO.out fun k hk => (H2.out.r k hk).1) (by decide) (by decide) (by decide) rfl (by decide)).mono ?_
    rintro e w3 hpost
    rcases hpost with ⟨_, rfl, hpost⟩ | ⟨hlt, _, _⟩
    case inr => exact absurd hlt (by decide)
    obtain ⟨hk3, hb3⟩ := bk_up (H2.out.fw hpost) HBB2.out.size
    have HBK3 := Aside0.mk (show BkM (fun k => w1.heap.size ≤ k) w3 bp bm sp lp pp dp qp mp 40 2 ⟨beginF (newF 8 40 2 1) 0, fun _ => ⟨0, []⟩, 0⟩ from hk3)
    have HB3 := Aside0.mk (HBB2.out.trans hb3)
    clear hpost hk3 hb3 c0 hbl
    go_wp2_with fail
    refine (num_at cut0 ((n : Int) + 1) cut (by omega) (by omega) HCU.out _).mono ?_
    rintro e w' ⟨rfl, rfl⟩
    have HVM := Aside0.mk (va_start HBK3.out HB3.out HB3.out.size (fun _ => false) (fun _ => false) (fun _ => 0) (fun _ => 0))
    obtain ⟨W, hW⟩ : ∃ W, (((w3.alloc (.cells (arrB fun _ => false) 43)).alloc (.cells (arrB fun _ => false) 43)).alloc (.cells (arrV fun _ => 0) 44)).alloc (.cells (arrV fun _ => 0) 44) = W := ⟨_, rfl⟩
    have HWE := Aside0.mk hW
    rw [hW] at HVM
    obtain ⟨b1, hb1⟩ : ∃ b, w3.heap.size = b := ⟨_, rfl⟩
    obtain ⟨b2, hb2⟩ : ∃ b, w3.heap.size + 1 = b := ⟨_, rfl⟩
    obtain ⟨b3, hb3⟩ : ∃ b, w3.heap.size + 2 = b := ⟨_, rfl⟩
    obtain ⟨b4, hb4⟩ : ∃ b, w3.heap.size + 3 = b := ⟨_, rfl⟩
    have HBN := Aside0.mk (And.intro hb1 (And.intro hb2 (And.intro hb3 hb4)))
    rw [hb4, hb3, hb2, hb1] at HVM
    clear hb1 hb2 hb3 hb4 hW
    go_upto_region 12 with fail
    change Code.wp _ _ _ _ ((((w3.alloc (.cells (arrB fun _ => false) 43)).alloc (.cells (arrB fun _ => false) 43)).alloc (.cells (arrV fun _ => 0) 44)).alloc (.cells (arrV fun _ => 0) 44))
    rw [HWE.out, HBN.out.2.2.2, HBN.out.2.2.1, HBN.out.2.1, HBN.out.1]
    have HVR := Aside0.mk (va_zero HC.out.1)
    clear HWE HBN HBK3 HB3 HBB2 H2 HOK
    go_wp2_with fail
    go_loopg [18] (n + 2) (fun kq v18 w' => ∃ (i : Int) (hs hs0 : Int → Bool) (vl vl0 : Int → Int) (B : BSt), v18 = .int .i64 i ∧ Aside0 (0 ≤ i ∧ i ≤ n ∧ (kq : Int) = n + 2 - i) ∧ Aside0 (VaR cut i i hs hs0 vl vl0 B) ∧ Aside0 (VaM w1.heap.size b1 b2 b3 b4 bp bm sp lp pp dp qp mp 40 2 hs hs0 vl vl0 w1 B w'))
    case atStart => exact ⟨0, _, _, _, _, _, rfl, ⟨by omega, by omega, by omega⟩, HVR, HVM⟩
    case round =>
      clear HVR HVM
      obtain ⟨i, hs, hs0, vl, vl0, B, rfl, HI, HR, HM⟩ := hrel
      have hi0 : 0 ≤ i := HI.out.1
      have hin : i ≤ n := HI.out.2.1
      go_upto_if 69 with fail
      go_cut [19, 20] (fun v19 v20 wx => ∃ (hs0 : Int → Bool) (vl0 : Int → Int) (B : BSt), Aside0 (VaR cut i (i + 1) hs hs0 vl vl0 B) ∧ Aside0 (VaM w1.heap.size b1 b2 b3 b4 bp bm sp lp pp dp qp mp 40 2 hs hs0 vl vl0 w1 B wx))
      case first =>
        by_cases hcc : i = cut
        · subst hcc
          go_wp2_with fail
          refine (va_save HR.out rfl hi0 HM.out).mono ?_
          rintro e w4 ⟨rfl, B4, hr4, hm4⟩
          have HR4 := Aside0.mk hr4
          have HM4 := Aside0.mk hm4
          clear hr4 hm4 HR HM
          go_upto_region 19 with fail
          obtain ⟨e43, u43⟩ := und43
          obtain ⟨e44, u44⟩ := und44
          have HU43 := Aside0.mk u43
          have HU44 := Aside0.mk u44
          have HMD := Aside0.mk (HM4.out.low (pw_below_drewN (Below.refl w4.heap.size w4) 1))
          clear u43 u44
          refine wp_region_any (by kernel_rfl) ?_
          refine wpAny_ready (rs := [0, 1]) (by kernel_rfl) (by simp) ?_
          refine AllReady.cons rfl (fun K hK => ?_) ?_
          · refine step_load_row rfl 43 (.tmp 14) rfl b1 rfl _ _ _ _ HMD.out.a1 HU43.out rfl (by rw [arrB_len]; exact siz43) ?_
            refine hK _ _ ?_
            clear hK K
            refine wpAny_ready (rs := [1, 2]) (by kernel_rfl) (by simp) ?_
            refine AllReady.cons rfl (fun K hK => ?_) ?_
            · refine step_load_row rfl 44 (.tmp 16) rfl b3 rfl _ _ _ _ HMD.out.a3 HU44.out rfl (by rw [arrV_len]; exact siz44) ?_
              refine hK _ _ ?_
              clear hK K
              refine wpAny_ready (rs := [2]) (by kernel_rfl) (by simp) ?_
              refine AllReady.cons rfl (fun K hK => ?_) ?_
              · refine step_store_row rfl 43 (.tmp 15) (.tmp 81) rfl b2 (arrB hs) rfl rfl _ _ HMD.out.a2 (by rw [arrB_len]; exact siz43) (by rw [arrB_len, arrB_len]) (one43 _) ?_
                refine hK _ _ ?_
                clear hK K
                refine wpAny_ready (rs := [3]) (by kernel_rfl) (by simp) ?_
                refine AllReady.cons rfl (fun K hK => ?_) ?_
                · refine step_store_row rfl 44 (.tmp 17) (.tmp 82) rfl b4 (arrV vl) rfl rfl _ _ (HMD.out.row2 hs).a4 (by rw [arrV_len]; exact siz44) (by rw [arrV_len, arrV_len]) (one44 _) ?_
                  refine hK _ _ ?_
                  clear hK K
                  refine wpAny_done (by kernel_rfl) ?_ _
                  go_wp2_with fail
                  go_meet
                  exact ⟨hs, vl, B4, HR4, ⟨(HMD.out.row2 hs).row4 vl⟩⟩
                exact AllReady.nil
              exact AllReady.nil
            refine AllReady.cons rfl (fun K hK => ?_) ?_
            · refine step_store_row rfl 43 (.tmp 15) (.tmp 81) rfl b2 (arrB hs) rfl rfl _ _ HMD.out.a2 (by rw [arrB_len]; exact siz43) (by rw [arrB_len, arrB_len]) (one43 _) ?_
              refine hK _ _ ?_
              clear hK K
              refine wpAny_ready (rs := [1]) (by kernel_rfl) (by simp) ?_
              refine AllReady.cons rfl (fun K hK => ?_) ?_
              · refine step_load_row rfl 44 (.tmp 16) rfl b3 rfl _ _ _ _ (HMD.out.row2 hs).a3 HU44.out rfl (by rw [arrV_len]; exact siz44) ?_
                refine hK _ _ ?_
                clear hK K
                refine wpAny_ready (rs := [3]) (by kernel_rfl) (by simp) ?_
                refine AllReady.cons rfl (fun K hK => ?_) ?_
                · refine step_store_row rfl 44 (.tmp 17) (.tmp 82) rfl b4 (arrV vl) rfl rfl _ _ (HMD.out.row2 hs).a4 (by rw [arrV_len]; exact siz44) (by rw [arrV_len, arrV_len]) (one44 _) ?_
                  refine hK _ _ ?_
                  clear hK K
                  refine wpAny_done (by kernel_rfl) ?_ _
                  go_wp2_with fail
                  go_meet
                  exact ⟨hs, vl, B4, HR4, ⟨(HMD.out.row2 hs).row4 vl⟩⟩
                exact AllReady.nil
              exact AllReady.nil
            exact AllReady.nil
          refine AllReady.cons rfl (fun K hK => ?_) ?_
          · refine step_load_row rfl 44 (.tmp 16) rfl b3 rfl _ _ _ _ HMD.out.a3 HU44.out rfl (by rw [arrV_len]; exact siz44) ?_
            refine hK _ _ ?_
            clear hK K
            refine wpAny_ready (rs := [0]) (by kernel_rfl) (by simp) ?_
            refine AllReady.cons rfl (fun K hK => ?_) ?_
            · refine step_load_row rfl 43 (.tmp 14) rfl b1 rfl _ _ _ _ HMD.out.a1 HU43.out rfl (by rw [arrB_len]; exact siz43) ?_
              refine hK _ _ ?_
              clear hK K
              refine wpAny_ready (rs := [2]) (by kernel_rfl) (by simp) ?_
              refine AllReady.cons rfl (fun K hK => ?_) ?_
              · refine step_store_row rfl 43 (.tmp 15) (.tmp 81) rfl b2 (arrB hs) rfl rfl _ _ HMD.out.a2 (by rw [arrB_len]; exact siz43) (by rw [arrB_len, arrB_len]) (one43 _) ?_
                refine hK _ _ ?_
                clear hK K
                refine wpAny_ready (rs := [3]) (by kernel_rfl) (by simp) ?_
                refine AllReady.cons rfl (fun K hK => ?_) ?_
                · refine step_store_row rfl 44 (.tmp 17) (.tmp 82) rfl b4 (arrV vl) rfl rfl _ _ (HMD.out.row2 hs).a4 (by rw [arrV_len]; exact siz44) (by rw [arrV_len, arrV_len]) (one44 _) ?_
                  refine hK _ _ ?_
                  clear hK K
                  refine wpAny_done (by kernel_rfl) ?_ _
                  go_wp2_with fail
                  go_meet
                  exact ⟨hs, vl, B4, HR4, ⟨(HMD.out.row2 hs).row4 vl⟩⟩
                exact AllReady.nil
              exact AllReady.nil
            exact AllReady.nil
          exact AllReady.nil
        · go_wp2_with fail
          go_meet
          exact ⟨hs0, vl0, B, ⟨HR.out.next hcc⟩, HM⟩
      case rest =>
        clear HR HM
        obtain ⟨hs0, vl0, B, HR, HM⟩ := hcut
        by_cases hlt : i < n
        · have hne : ¬ i = (n : Int) := by omega
          have hi20 : i < 20 := by omega
          obtain ⟨ad, e, hc⟩ := (HRD.out.below (below_step HBA.out HM.out.below)).at_ i hi0 (by have := HN.out; omega)
          subst e
          obtain ⟨x, hx⟩ : ∃ x, rd xs i = x := ⟨_, rfl⟩
          rw [hx] at hc
          obtain ⟨k, hk⟩ : ∃ k, x % 30 = k := ⟨_, rfl⟩
          have HK := Aside0.mk hk
          have k0 : 0 ≤ k := by omega
          have k30 : k < 30 := by omega
          obtain ⟨u, hu⟩ : ∃ u, IntKind.i64.wrap (v + i) = u := ⟨_, rfl⟩
          have HU := Aside0.mk (show is64 u by rw [← hu, IntKind.wrap_i64]; unfold is64; omega)
          have hwi : IntKind.i64.wrap (i + 1) = i + 1 := by rw [IntKind.wrap_i64]; omega
          clear hx hk
          go_wp2_with fail
          refine (num_at _ _ _ (by omega) (by omega) HK.out _).mono ?_
          rintro e w' ⟨rfl, rfl⟩
          obtain ⟨hc1, hf1, hl1⟩ := HM.out.c1 k0 k30
          go_wp2_with fail
          · refine (va_del HR.out hi0 hi20 HM.out (HS1.out.below HM.out.below) HO.out k0 k30).mono ?_
            rintro e w5 ⟨old, rfl, B5, hr5, hm5⟩
            have HR5 := Aside0.mk hr5
            have HM5 := Aside0.mk hm5
            obtain ⟨hc1, hf1, hl1⟩ := hm5.c1 k0 k30
            clear hr5 hm5 HR HM
            obtain ⟨h0, hh0⟩ : ∃ b, hs k = b := ⟨_, rfl⟩
            rw [hh0] at hc1 ⊢
            clear hh0
            go_wp2_with fail
            go_roundg (gk - 1)
            case measure => have := HI.out; omega
            case rel => exact ⟨i + 1, _, _, _, _, B5, rfl, ⟨by omega, by omega, by have := HI.out; omega⟩, HR5, ⟨HM5.out.set1 false k0 k30⟩⟩
          · refine (va_put HR.out hi0 hi20 HM.out (HS1.out.below HM.out.below) HO.out k0 k30 HU.out).mono ?_
            rintro e w5 ⟨old, rfl, B5, hr5, hm5⟩
            have HR5 := Aside0.mk hr5
            have HM5 := Aside0.mk hm5
            obtain ⟨hc1, hf1, hl1⟩ := hm5.c1 k0 k30
            obtain ⟨hc3, hf3, hl3⟩ := hm5.c3 k0 k30
            obtain ⟨n12, n23, n34⟩ := hm5.ne
            have hn1 : ¬ b1 = b3 := by omega
            have hn2 : ¬ b3 = b1 := by omega
            clear hr5 hm5 HR HM n12 n23 n34
            obtain ⟨h0, hh0⟩ : ∃ b, hs k = b := ⟨_, rfl⟩
            rw [hh0] at hc1 ⊢
            clear hh0
            go_wp2_with fail
            go_roundg (gk - 1)
            case measure => have := HI.out; omega
            case rel => exact ⟨i + 1, _, _, _, _, B5, rfl, ⟨by omega, by omega, by have := HI.out; omega⟩, HR5, ⟨(HM5.out.set1 true k0 k30).set3 u k0 k30⟩⟩
        · obtain rfl : i = (n : Int) := by omega
          go_upto_if 144 with fail
          go_cut [] (fun wx => ∃ (hs1 : Int → Bool) (vl1 : Int → Int) (B : BSt), Aside0 (RSt (1 + 8 + 40 : Int).toNat 40 (tab hs1 vl1) B.F) ∧ Aside0 (VaM w1.heap.size b1 b2 b3 b4 bp bm sp lp pp dp qp mp 40 2 hs hs1 vl vl1 w1 B wx))
          case first =>
            cases ab
            · go_wp2_with fail
              refine (va_back HR.out HC.out.2 (by omega) (by omega) HM.out (HS1.out.below HM.out.below) HO.out).mono ?_
              rintro e w5 ⟨rfl, B5, hr5, hm5⟩
              go_wp2_with fail
              go_meet
              exact ⟨hs0, vl0, B5, ⟨hr5⟩, ⟨hm5⟩⟩
            · go_wp2_with fail
              refine (va_abort HR.out (by omega) (by omega) HM.out (HS1.out.below HM.out.below) HO.out).mono ?_
              rintro e w5 ⟨rfl, B5, hr5, hm5⟩
              have HR5 := Aside0.mk hr5
              have HM5 := Aside0.mk hm5
              obtain ⟨c0, hbl⟩ := hm5.box
              clear hr5 hm5 HR HM
              go_wp2_with fail
              refine (va_begin HR5.out HM5.out (HS1.out.below HM5.out.below) HO.out).mono ?_
              rintro e w6 ⟨rfl, B6, hr6, hm6⟩
              have HR6 := Aside0.mk hr6
              have HM6 := Aside0.mk hm6
              clear hr6 hm6 HR5 HM5 c0 hbl
              go_wp2_with (refine wpList_store_row rfl 43 _ _ rfl b2 (arrB fun _ => false) rfl rfl _ _ HM6.out.a2 (by rw [arrB_len]; exact siz43) (by rw [arrB_len, arrB_len]) (one43 _) ?_)
              go_meet
              exact ⟨fun _ => false, vl0, B6, ⟨by rw [show tab (fun _ => false) vl0 = fun _ => none from rfl]; exact HR6.out⟩, ⟨HM6.out.row2 _⟩⟩
          case rest =>
            clear HR HM
            obtain ⟨hs1, vl1, B, HR, HM⟩ := hcut
            go_wp2_with fail
            go_loopg [28] 31 (fun kq v28 w' => ∃ (k : Int) (B : BSt), v28 = .int .i64 k ∧ Aside0 (0 ≤ k ∧ k ≤ 30 ∧ (kq : Int) = 31 - k) ∧ Aside0 (RSt (1 + 8 + 40 : Int).toNat (40 + k.toNat) (tab hs1 vl1) B.F) ∧ Aside0 (VaM w1.heap.size b1 b2 b3 b4 bp bm sp lp pp dp qp mp 40 2 hs hs1 vl vl1 w1 B w'))
            case atStart => exact ⟨0, _, rfl, ⟨by omega, by omega, by omega⟩, HR, HM⟩
            case round =>
              clear HR HM
              obtain ⟨k, B, rfl, HK, HR, HM⟩ := hrel
              have k0 : 0 ≤ k := HK.out.1
              by_cases hk : k < 30
              · have hwk : IntKind.i64.wrap (k + 1) = k + 1 := by rw [IntKind.wrap_i64]; omega
                go_wp2_with fail
                refine (va_get HR.out (by omega) HM.out (HS1.out.below HM.out.below) HO.out k0 hk).mono ?_
                rintro e w5 ⟨rfl, B5, hr5, hm5⟩
                have HR5 := Aside0.mk (show RSt (1 + 8 + 40 : Int).toNat (40 + (k + 1).toNat) (tab hs1 vl1) B5.F from by rw [show 40 + (k + 1).toNat = 40 + k.toNat + 1 by omega]; exact hr5)
                have HM5 := Aside0.mk hm5
                obtain ⟨hc2, hl2⟩ := hm5.c2 k0 hk
                obtain ⟨hc4, hl4⟩ := hm5.c4 k0 hk
                rw [tab_none.1, tab_none.2]
                obtain ⟨h1, hh1⟩ : ∃ b, hs1 k = b := ⟨_, rfl⟩
                rw [hh1] at hc2 ⊢
                clear hr5 hm5 HR HM hh1
                cases h1
                case' false => go_wp2_with fail
                case' true => go_wp2_with fail
                all_goals
                  go_roundg (gk - 1)
                  case measure => have := HK.out; omega
                  case rel => exact ⟨k + 1, B5, rfl, ⟨by omega, by omega, by have := HK.out; omega⟩, HR5, HM5⟩
              · go_wp2_with fail
                go_ret
                exact ⟨rfl, below_step HBA.out HM.out.below⟩
end Go.Proofs.YtaplpeoikebedaaGreatDoor.WalkBackValues
