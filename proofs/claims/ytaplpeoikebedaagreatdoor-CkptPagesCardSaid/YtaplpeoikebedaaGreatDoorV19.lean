/- Joined texts: PoolA, ErrD, TabL, DiskL, AheadD, Pager. No condition but what each says. -/
import Derived.Test.YtaplpeoikebedaaGreatDoorV18
import Derived.Test.YtaplpeoikebedaaGreatDoorV13
import Derived.Test.YtaplpeoikebedaaGreatDoorV6
import Derived.Test.YtaplpeoikebedaaGreatDoorV7
import Derived.Test.YtaplpeoikebedaaGreatDoorV15
import Derived.Test.YtaplpeoikebedaaGreatDoorV4
set_option maxHeartbeats 8000000
set_option maxRecDepth 100000
set_option linter.unusedVariables false
set_option linter.unusedSimpArgs false
namespace Go.Proofs.YtaplpeoikebedaaGreatDoor.PoolA
open Go.RowKit YtaplpeoikebedaaGreatDoorW.PrintWords YtaplpeoikebedaaGreatDoorW.PrintLast YtaplpeoikebedaaGreatDoorW.PrintMore
open See Mem Clone Go.Proofs.YtaplpeoikebedaaGreatDoor.Cell Page PageB PageR Disk DiskN DiskW DiskS RecD Pool1 Pool2 Pool3 Wal WalF Dirty Dirty2 SysD SysM PoolF PoolE PoolG PoolS Num SortI Fresh Del
attribute [local go_sem] max2_imax min2_imin max_two min_two
def flushAllS (S : PSys) : PSys × Option Nat :=
  match flushL S (sortI (S.here.map (·.n))) with
  | (S', some e) => (S', some e)
  | (S', none) => ({ S' with d := syncD S'.d }, syncE S'.d)
theorem flushS_loose {S : PSys} {n : Int} {m : Nat} (hf : FuseOk S.d) (hl : LooseLe S.d m) : LooseLe (flushS S n).1.d (m + S.l.l.length + 2) ∧ (flushS S n).1.l.l.length = S.l.l.length := by
  unfold flushS
  split
  · exact ⟨hl.mono (by omega), rfl⟩
  · rename_i f hfd
    split
    · exact ⟨hl.mono (by omega), rfl⟩
    · by_cases hd : S.l.doneN < f.lsn
      · simp only [if_pos hd]
        obtain ⟨o1, o2, o3⟩ := lflush_ok (L := S.l) hf hl
        have hll : (lflush S.l S.d).1.l.length = S.l.l.length := by
          unfold lflush
          split
          · rfl
          · split
            · rfl
            · split <;> rfl
        split
        · exact ⟨o2.mono (by omega), hll⟩
        · split
          · exact ⟨(writeD_loose n (pageBytes f.lsn f.es) o2).mono (by omega), hll⟩
          · exact ⟨(writeD_loose n (pageBytes f.lsn f.es) o2).mono (by omega), hll⟩
      · simp only [if_neg hd]
        split
        · exact ⟨(writeD_loose n (pageBytes f.lsn f.es) hl).mono (by omega), rfl⟩
        · exact ⟨(writeD_loose n (pageBytes f.lsn f.es) hl).mono (by omega), rfl⟩
theorem flushL_cons_ok {S S' : PSys} {n : Int} {ns : List Int} (h : flushS S n = (S', none)) : flushL S (n :: ns) = flushL S' ns := by rw [flushL, h]
theorem flushL_cons_err {S S' : PSys} {n : Int} {ns : List Int} {e : Nat} (h : flushS S n = (S', some e)) : flushL S (n :: ns) = (S', some e) := by rw [flushL, h]
theorem sys_keepM {M : Nat → Prop} {w w1 w2 : World} {pp lp dp : Nat} {S : PSys} (hb : w.heap.size ≤ w1.heap.size) (hx : SysM (Gr (Gr M w w1) w1 w2) w2 pp lp dp S) (hz : w1.heap.size ≤ w2.heap.size) : SysM (Gr M w w2) w2 pp lp dp S :=
  hx.mono fun k hk => by
    rcases hk with (hk | ⟨h1, h2⟩) | ⟨h1, h2⟩
    · exact .inl hk
    · exact .inr ⟨h1, by omega⟩
    · exact .inr ⟨by omega, h2⟩
def PAllPost (a : Nat → Addr) (M : Nat → Prop) (pp lp dp : Nat) (S : PSys) (w : World) (e : Ending) (w' : World) : Prop :=
  e = .returned (errv a (flushAllS S).2) ∧ SysM (Gr M w w') w' pp lp dp (flushAllS S).1 ∧ Frm sTurn M w w'
theorem flushall_pool (a : Nat → Addr) (M : Nat → Prop) (pp lp dp : Nat) (S : PSys) (w : World) (hs : Sents w a) (hO : Out M a) (x : SysM M w pp lp dp S) (hlo : LooseLe S.d 7000) (hll : S.l.l.length ≤ 4000) :
    Calls Tryz.prog 101 #[.pointer (some ⟨pp, 0, none⟩)] w (PAllPost a M pp lp dp S w) := by
  have HS := Aside0.mk hs
  have HO := Aside0.mk hO
  have HX := Aside0.mk x
  have HLO := Aside0.mk hlo
  have HLL := Aside0.mk hll
  clear hs hO x hlo hll
  go_enter Tryz.func101, Tryz.ntmps101
  go_wp2_with fail
  refine (here_pool HX.out).mono ?_
  rintro e w1 ⟨v1, rfl, h1, hb1⟩
  obtain ⟨ns, hns⟩ : ∃ ns, S.here.map (·.n) = ns := ⟨_, rfl⟩
  have HNS := Aside0.mk hns
  rw [hns] at h1
  have HI1 := Aside0.mk h1
  have HB1 := Aside0.mk hb1
  have hn8 : ns.length ≤ 8 := by rw [← hns, List.length_map]; exact HX.out.here.few
  clear h1 hb1 hns
  go_wp2_with fail
  refine (sort_is w.heap.size v1 ns _ HI1.out (by omega)).mono ?_
  rintro e w2 ⟨rfl, h2, hg2⟩
  have HB2 := Aside0.mk (show Below w.heap.size w w2 from HB1.out.grown hg2 HB1.out.size (fun k hk => (ow_block HI1.out hk).1))
  have HI2 := Aside0.mk h2
  have HSL := Aside0.mk (sortI_len ns)
  obtain ⟨A2, c2, rfl, _⟩ := ow_slice h2
  obtain ⟨q, hq⟩ : ∃ q, sortI ns = q := ⟨_, rfl⟩
  have HQ := Aside0.mk hq
  rw [hq] at HI2 HSL ⊢
  obtain ⟨n, hn⟩ : ∃ n, q.length = n := ⟨_, rfl⟩
  have HN := Aside0.mk hn
  have hn8 : n ≤ 8 := by rw [← hn, HSL.out]; exact hn8
  rw [hn] at HI2 ⊢
  clear h2 hg2 hq hn
  go_wp2_with fail
  go_loopg [13] (n + 1) (fun kq v13 w' => ∃ (i : Int) (T : PSys), v13 = .int .i64 i ∧ Aside0 (0 ≤ i ∧ i ≤ n ∧ (kq : Int) = n + 1 - i) ∧ Aside0 (flushL S q = flushL T (q.drop i.toNat)) ∧ Aside0 (SysM (Gr M w w') w' pp lp dp T) ∧ Aside0 (Frm sTurn M w w') ∧ Aside0 (IS w' w.heap.size (.slice A2 n c2) q) ∧ Aside0 (LooseLe T.d (7000 + 4002 * i.toNat) ∧ T.l.l.length = S.l.l.length))
  case atStart => exact ⟨0, S, rfl, ⟨by omega, by omega, by omega⟩, ⟨rfl⟩, ⟨(HX.out.below HB2.out).mono fun k hk => .inl hk⟩, ⟨Frm.of_below HB2.out⟩, HI2, ⟨HLO.out, rfl⟩⟩
  case round =>
    obtain ⟨i, T, rfl, HI, HFL, HT, HF, HIS, HLT⟩ := hrel
    have hi0 : 0 ≤ i := HI.out.1
    by_cases hlt : i < n
    · obtain ⟨h, hh⟩ : ∃ h, q[i.toNat]? = some h := ⟨_, List.getElem?_eq_getElem (by have := HN.out; omega)⟩
      have HIR := Aside0.mk (show IR wr (.slice A2 n c2) q from by have h := HIS.out; have hN := HN.out; subst hN; exact IR.of h (by omega))
      obtain ⟨g, o, hA, hnq, hc⟩ := HIR.out.at hh
      clear hnq
      have HD := Aside0.mk (show q.drop i.toNat = h :: q.drop (i.toNat + 1) from by
        obtain ⟨h1, h2⟩ := List.getElem?_eq_some_iff.1 hh
        rw [← h2]; exact List.drop_eq_getElem_cons h1)
      clear hh
      subst hA
      go_wp2_with fail
      have HS3 := Aside0.mk (sents_frm HS.out HF.out HO.out)
      refine (flush_pool a (Gr M w wr) pp lp dp T h _ HS3.out (HO.out.gr HS.out (w' := wr)) HT.out (HLT.out.1.mono (by omega))).mono ?_
      rintro e w3 ⟨rfl, x3, f3⟩
      obtain ⟨l1, l2⟩ := flushS_loose (n := h) HT.out.fuse HLT.out.1
      have HL3 := Aside0.mk (And.intro l1 l2)
      have HX3 := Aside0.mk (sys_keepM HF.out.size x3 f3.size)
      have HF3 := Aside0.mk (HF.out.transG f3)
      have HIS3 := Aside0.mk (show IS w3 w.heap.size (.slice (some ⟨g, o, none⟩) n c2) q from by have h := HIS.out; have hN := HN.out; subst hN; exact ow_frm h f3 (by decide))
      clear x3 f3 l1 l2 hc
      obtain ⟨r, hr⟩ : ∃ r, flushS T h = r := ⟨_, rfl⟩
      have HR := Aside0.mk hr
      rw [hr] at HX3 HL3 ⊢
      clear hr
      obtain ⟨T', oo⟩ := r
      simp only at HX3 HL3
      cases oo with
      | some e =>
        have HRR := Aside0.mk (show flushAllS S = (T', some e) from by
          unfold flushAllS
          rw [show sortI (S.here.map (·.n)) = q from by rw [HNS.out, HQ.out], HFL.out, HD.out, flushL_cons_err HR.out])
        rw [show errv a (T', some e).2 = .iface 333 (.pointer (some (a e))) from rfl]
        go_wp2_with fail
        go_ret
        exact ⟨by rw [HRR.out]; rfl, by rw [HRR.out]; exact HX3.out, HF3.out⟩
      | none =>
        rw [show errv a (T', none).2 = .nilIface from rfl]
        go_wp2_with fail
        go_roundg (gk - 1)
        case measure => have := HI.out; omega
        case rel => exact ⟨i + 1, T', rfl, ⟨by omega, by omega, by have := HI.out; omega⟩, ⟨by rw [HFL.out, HD.out, flushL_cons_ok HR.out, show (i + 1).toNat = i.toNat + 1 from by omega]⟩, HX3, HF3, HIS3, ⟨by
          have h1 := HL3.out
          have h2 := HLT.out
          have h3 := HLL.out
          refine ⟨h1.1.mono (by omega), by omega⟩⟩⟩
    · have HFA := Aside0.mk (show flushAllS S = ({ T with d := syncD T.d }, syncE T.d) from by
        unfold flushAllS
        rw [show sortI (S.here.map (·.n)) = q from by rw [HNS.out, HQ.out], HFL.out, List.drop_of_length_le (by have := HN.out; omega), flushL])
      obtain ⟨t1, h1, fs1, ht1, hh1⟩ := HT.out.pool
      obtain ⟨_, g5, _, _, _⟩ := pool_cells ht1
      clear ht1 hh1
      have HS3 := Aside0.mk (sents_frm HS.out HF.out HO.out)
      go_wp2_with fail
      refine (sync_disk a (Gr M w wr) dp T.d _ HS3.out (HO.out.gr HS.out (w' := wr)) HT.out.dsk HT.out.fuse (fun s hs => Nat.le_trans (HLT.out.1 s hs) (by have := HI.out; omega))).mono ?_
      rintro e w3 ⟨rfl, d3, f3⟩
      have hx := HT.out.disk (d3.mono fun k hk => .inl hk) f3 (syncD_ok HT.out.fuse HLT.out.1).1
      have HX3 := Aside0.mk (sys_keepM HF.out.size hx f3.size)
      have HF3 := Aside0.mk (HF.out.transG (frm_sys1 f3))
      clear d3 f3 hx g5
      go_wp2_with fail
      go_ret
      exact ⟨by rw [HFA.out]; rfl, by rw [HFA.out]; exact HX3.out, HF3.out⟩
end Go.Proofs.YtaplpeoikebedaaGreatDoor.PoolA
namespace Go.Proofs.YtaplpeoikebedaaGreatDoor.ErrD
open Go.RowKit See Mem Clone Go.Proofs.YtaplpeoikebedaaGreatDoor.Cell Page PageB PageR PageL Disk DiskN DiskW WalF
theorem page_zero : pageBytes 0 [] = List.replicate 256 0 := by decide +kernel
end Go.Proofs.YtaplpeoikebedaaGreatDoor.ErrD
namespace Go.Proofs.YtaplpeoikebedaaGreatDoor.TabL
open Go.RowKit See Mem Dirty SysD
theorem has_cons (d : Int × Int) (ds : List (Int × Int)) (n : Int) : has (d :: ds) n = if d.1 < n then has ds n else d.1 == n := by
  unfold has
  by_cases h : d.1 < n
  · rw [if_pos h]
    simp only [pos, if_pos h, List.getElem?_cons_succ]
  · rw [if_neg h]
    simp only [pos, if_neg h, List.getElem?_cons_zero]
theorem has_iff : ∀ (ds : List (Int × Int)) (n : Int), Rising ds → (has ds n = true ↔ ∃ d ∈ ds, d.1 = n)
  | [], n, _ => by simp [has, pos]
  | d :: ds, n, h => by
    unfold Rising at h
    rw [List.pairwise_cons] at h
    rw [has_cons]
    by_cases hd : d.1 < n
    · rw [if_pos hd, has_iff ds n h.2]
      constructor
      · rintro ⟨x, hx, e⟩; exact ⟨x, List.mem_cons_of_mem _ hx, e⟩
      · rintro ⟨x, hx, e⟩
        rcases List.mem_cons.1 hx with rfl | hx
        · omega
        · exact ⟨x, hx, e⟩
    · rw [if_neg hd]
      constructor
      · intro e; exact ⟨d, List.mem_cons_self, by simpa using e⟩
      · rintro ⟨x, hx, e⟩
        rcases List.mem_cons.1 hx with rfl | hx
        · simpa using e
        · have := h.1 x hx; omega
theorem drop_mem {ds : List (Int × Int)} {n : Int} {x : Int × Int} (hx : x ∈ dropT ds n) : x ∈ ds := by
  unfold dropT at hx
  split at hx
  · exact (List.eraseIdx_sublist _ _).mem hx
  · exact hx
theorem drop_ne : ∀ (ds : List (Int × Int)) (n : Int), Rising ds → ∀ x ∈ dropT ds n, x.1 ≠ n
  | [], n, _, x, hx => by simp [dropT] at hx
  | d :: ds, n, h, x, hx => by
    have h0 := h
    unfold Rising at h
    rw [List.pairwise_cons] at h
    unfold dropT at hx
    by_cases hh : has (d :: ds) n = true
    · rw [if_pos hh] at hx
      by_cases hd : d.1 < n
      · simp only [pos, if_pos hd, List.eraseIdx_cons_succ] at hx
        rcases List.mem_cons.1 hx with rfl | hx
        · omega
        · rw [has_cons, if_pos hd] at hh
          exact drop_ne ds n h.2 x (by unfold dropT; rw [if_pos hh]; exact hx)
      · simp only [pos, if_neg hd, List.eraseIdx_cons_zero] at hx
        have := h.1 x hx
        rw [has_cons, if_neg hd] at hh
        have : d.1 = n := by simpa using hh
        omega
    · rw [if_neg hh] at hx
      intro e
      exact hh ((has_iff _ n h0).2 ⟨x, hx, e⟩)
theorem drop_keep : ∀ {ds : List (Int × Int)} {n : Int}, Rising ds → ∀ {x : Int × Int}, x ∈ ds → x.1 ≠ n → x ∈ dropT ds n
  | [], n, _, x, hx, _ => by cases hx
  | d :: ds, n, h, x, hx, hne => by
    unfold Rising at h
    rw [List.pairwise_cons] at h
    unfold dropT
    split
    · rename_i hh
      by_cases hd : d.1 < n
      · simp only [pos, if_pos hd, List.eraseIdx_cons_succ]
        rcases List.mem_cons.1 hx with rfl | hx
        · exact List.mem_cons_self
        · rw [has_cons, if_pos hd] at hh
          have := drop_keep (n := n) h.2 hx hne
          unfold dropT at this
          rw [if_pos hh] at this
          exact List.mem_cons_of_mem _ this
      · simp only [pos, if_neg hd, List.eraseIdx_cons_zero]
        rw [has_cons, if_neg hd] at hh
        rcases List.mem_cons.1 hx with rfl | hx
        · exact absurd (by simpa using hh) hne
        · exact hx
    · exact hx
theorem add_mem {ds : List (Int × Int)} {n f : Int} {x : Int × Int} (hx : x ∈ addT ds n f) : x ∈ ds ∨ x = (n, f) := by
  unfold addT at hx
  split at hx
  · exact .inl hx
  · rcases List.mem_append.1 hx with hx | hx
    · exact .inl (List.mem_of_mem_take hx)
    · rcases List.mem_cons.1 hx with hx | hx
      · exact .inr hx
      · exact .inl (List.mem_of_mem_drop hx)
end Go.Proofs.YtaplpeoikebedaaGreatDoor.TabL
namespace Go.Proofs.YtaplpeoikebedaaGreatDoor.DiskL
open Go.RowKit YtaplpeoikebedaaGreatDoorW.PrintWords YtaplpeoikebedaaGreatDoorW.PrintLast YtaplpeoikebedaaGreatDoorW.PrintMore
open See Mem Clone Go.Proofs.YtaplpeoikebedaaGreatDoor.Cell Page PageB PageR Disk DiskN
end Go.Proofs.YtaplpeoikebedaaGreatDoor.DiskL
namespace Go.Proofs.YtaplpeoikebedaaGreatDoor.AheadD
open Go.RowKit See Mem Clone Go.Proofs.YtaplpeoikebedaaGreatDoor.Cell Page PageB PageR PageL Disk DiskN DiskW RecD Dirty Dirty2 SysD SysM Wal WalF GoodD PoolG PoolS FlushG Fresh DirtD PoolA TabL DiskL SortI
structure ASt (i : Nat) (lst : Int → Int) (S : PSys) : Prop where
  good : GoodD.Good S.d 20
  frames : S.frames = 2
  log : S.l.first = 6 ∧ S.l.blocks = 12 ∧ S.l.base = 0 ∧ S.l.l.length = i ∧ S.l.done ≤ i
  room : i ≤ 30
  few : S.here.length ≤ 2
  once : S.here.Pairwise fun a b => a.n ≠ b.n
  here : ∀ f ∈ S.here, 1 ≤ f.n ∧ f.n ≤ 5 ∧ f.es = [] ∧ f.lsn = lst f.n
  lsn : ∀ k, 0 ≤ lst k ∧ lst k ≤ i
  rise : Rising S.t
  tab : ∀ d ∈ S.t, ∃ f ∈ S.here, f.n = d.1
  disk : ∀ k, 1 ≤ k → k ≤ 5 → ∃ x, 0 ≤ x ∧ x ≤ S.l.doneN ∧ readV S.d k = pageBytes x [] ∧ (has S.t k = false → x = lst k)
theorem find_once : ∀ {l : List Fp} {f : Fp}, (l.Pairwise fun a b => a.n ≠ b.n) → f ∈ l → findP l f.n = some f
  | [], f, _, h => by cases h
  | x :: xs, f, ho, h => by
    rw [List.pairwise_cons] at ho
    unfold findP
    rw [List.find?_cons]
    rcases List.mem_cons.1 h with rfl | h
    · simp
    · have hne : x.n ≠ f.n := ho.1 f h
      simp only [hne, decide_false]
      exact find_once ho.2 h
theorem find_some {l : List Fp} {n : Int} {f : Fp} (h : findP l n = some f) : f ∈ l ∧ f.n = n := by
  unfold findP at h
  exact ⟨List.mem_of_find?_eq_some h, by simpa using List.find?_some h⟩
theorem find_none {l : List Fp} {n : Int} (h : findP l n = none) : ∀ f ∈ l, f.n ≠ n := by
  unfold findP at h
  rw [List.find?_eq_none] at h
  exact fun f hf e => h f hf (decide_eq_true e)
theorem find_last {l : List Fp} {n : Int} {f : Fp} (h : findP l n = none) (hf : f.n = n) : findP (l ++ [f]) n = some f := by
  unfold findP at h ⊢
  rw [List.find?_append, h]
  simp [hf]
theorem has_add {ds : List (Int × Int)} {n f k : Int} (h : Rising ds) : has (addT ds n f) k = false → has ds k = false := fun e => by
  rw [Bool.eq_false_iff] at e ⊢
  intro e2
  obtain ⟨d, hd, e3⟩ := (has_iff _ k h).1 e2
  refine e ((has_iff _ k (addT_rising h n f)).2 ⟨d, ?_, e3⟩)
  unfold addT
  split
  · exact hd
  · rw [← List.take_append_drop (pos ds n) ds] at hd
    rcases List.mem_append.1 hd with hd | hd
    · exact List.mem_append_left _ hd
    · exact List.mem_append_right _ (List.mem_cons_of_mem _ hd)
theorem has_add_self {ds : List (Int × Int)} {n f : Int} (h : Rising ds) : has (addT ds n f) n = true := by
  by_cases e : has ds n = true
  · unfold addT; rw [if_pos e]; exact e
  · refine (has_iff _ n (addT_rising h n f)).2 ⟨(n, f), ?_, rfl⟩
    unfold addT
    rw [if_neg e]
    exact List.mem_append_right _ List.mem_cons_self
theorem evictS_d (S : PSys) (hint : Int) : (evictS S hint).1.d = S.d ∨ ∃ n, (evictS S hint).1.d = (flushS S n).1.d := by
  unfold evictS
  split
  · exact .inl rfl
  · rename_i f _
    refine .inr ⟨f.n, ?_⟩
    split
    · rename_i S' e hq; rw [hq]
    · rename_i S' hq; rw [hq]
theorem getS_d (S : PSys) (n hint : Int) : (getS S n hint).1.d = S.d ∨ (getS S n hint).1.d = (evictS S hint).1.d := by
  unfold getS
  split
  · exact .inl rfl
  · split
    · exact .inl rfl
    · by_cases hr : S.frames ≤ S.here.length
      · rw [if_pos hr]
        refine .inr ?_
        simp only
        split
        · rfl
        · split
          · rfl
          · split <;> rfl
      · rw [if_neg hr]
        refine .inl ?_
        simp only
        split
        · rfl
        · split <;> rfl
theorem tab_few {i : Nat} {lst : Int → Int} {S : PSys} (h : ASt i lst S) : S.t.length ≤ 70000 := by
  have hn : ∀ (l : List (Int × Int)), Rising l → (∀ d ∈ l, 1 ≤ d.1 ∧ d.1 ≤ 5) → l.length ≤ 5 := fun l hr hb => by
    have : ∀ (l : List (Int × Int)) (k : Int), Rising l → (∀ d ∈ l, k ≤ d.1 ∧ d.1 ≤ 5) → k ≤ 6 → (l.length : Int) ≤ 6 - k := by
      intro l
      induction l with
      | nil => intro k _ _ hk; simp; omega
      | cons d l ih =>
        intro k hr hb hk
        unfold Rising at hr
        rw [List.pairwise_cons] at hr
        have h1 := hb d List.mem_cons_self
        have := ih (d.1 + 1) hr.2 (fun x hx => ⟨by have := hr.1 x hx; omega, (hb x (List.mem_cons_of_mem _ hx)).2⟩) (by omega)
        rw [List.length_cons]
        omega
    have := this l 1 hr hb (by omega)
    omega
  have := hn S.t h.rise (fun d hd => by
    obtain ⟨f, hf, e⟩ := h.tab d hd
    obtain ⟨h1, h2, _⟩ := h.here f hf
    omega)
  omega
end Go.Proofs.YtaplpeoikebedaaGreatDoor.AheadD
namespace Go.Proofs.YtaplpeoikebedaaGreatDoor.Pager
open Go.RowKit See Mem Clone Go.Proofs.YtaplpeoikebedaaGreatDoor.Cell Page PageB PageR PageL Disk DiskN DiskW RecD Dirty Dirty2 SysD SysM Wal WalF GoodD PoolG PoolS FlushG Fresh DirtD PoolA TabL AheadD
abbrev Pg := Int × List (Int × Int)
def cur (S : PSys) (k : Int) : Pg := match findP S.here k with
  | some f => (f.lsn, f.es)
  | none => (readPage (readV S.d k)).getD (0, [])
structure PgOk (N : Nat) (P : Int) (S : PSys) : Prop where
  good : GoodD.Good S.d N
  pages : 1 ≤ P
  frames : 1 ≤ S.frames
  first : S.l.first = P + 1
  size : S.l.first * 6 + S.l.l.length ≤ N * 6
  done : S.l.done ≤ S.l.l.length
  few : (S.here.length : Int) ≤ S.frames
  once : S.here.Pairwise fun a b => a.n ≠ b.n
  here : ∀ f ∈ S.here, 1 ≤ f.n ∧ f.n ≤ P ∧ PageV f.lsn f.es
  rise : Rising S.t
  tab : ∀ d ∈ S.t, (∃ f ∈ S.here, f.n = d.1) ∧ 1 ≤ d.2 ∧ d.2 ≤ S.l.last
  disk : ∀ k, 1 ≤ k → k ≤ P → ∃ g : Pg, readV S.d k = pageBytes g.1 g.2 ∧ PageV g.1 g.2
  same : ∀ f ∈ S.here, has S.t f.n = false → readV S.d f.n = pageBytes f.lsn f.es
structure PgTo (P : Int) (S S' : PSys) : Prop where
  cur : ∀ k, 1 ≤ k → k ≤ P → cur S' k = cur S k
  frames : S'.frames = S.frames
  log : ∃ dn, S'.l = { S.l with done := dn } ∧ S.l.done ≤ dn
  tab : ∀ d ∈ S'.t, d ∈ S.t
theorem PgTo.refl (P : Int) (S : PSys) : PgTo P S S := ⟨fun _ _ _ => rfl, rfl, ⟨S.l.done, rfl, Nat.le_refl _⟩, fun _ h => h⟩
theorem PgTo.ll {P : Int} {S S' : PSys} (h : PgTo P S S') : S'.l.l = S.l.l ∧ S'.l.base = S.l.base ∧ S'.l.blocks = S.l.blocks ∧ S'.l.epoch = S.l.epoch ∧ S'.l.first = S.l.first := by
  obtain ⟨dn, e, _⟩ := h.log
  rw [e]
  exact ⟨rfl, rfl, rfl, rfl, rfl⟩
theorem PgOk.len {N : Nat} {P : Int} {S : PSys} (h : PgOk N P S) : P + 1 ≤ N := by
  have h1 := h.size
  have h2 := h.first
  have h3 := h.pages
  omega
theorem PgOk.curV {N : Nat} {P : Int} {S : PSys} (h : PgOk N P S) {k : Int} (h1 : 1 ≤ k) (h2 : k ≤ P) : PageV (cur S k).1 (cur S k).2 := by
  unfold cur
  cases hf : findP S.here k with
  | some f =>
    obtain ⟨m1, _⟩ := find_some hf
    exact (h.here f m1).2.2
  | none =>
    obtain ⟨g, g1, g2⟩ := h.disk k h1 h2
    simp only [g1, page_back g2]
    exact g2
theorem cur_here {S : PSys} {k : Int} {f : Fp} (h : findP S.here k = some f) : cur S k = (f.lsn, f.es) := by unfold cur; rw [h]
theorem cur_none {S : PSys} {k : Int} {g : Pg} (h : findP S.here k = none) (hd : readV S.d k = pageBytes g.1 g.2) (hv : PageV g.1 g.2) : cur S k = g := by
  unfold cur
  rw [h]
  simp only [hd, page_back hv]
  rfl
theorem pg_flush {N : Nat} {P : Int} {S : PSys} (n : Int) (h : PgOk N P S) :
    ∃ S', flushS S n = (S', none) ∧ PgOk N P S' ∧ PgTo P S S' ∧ S'.here = S.here ∧ has S'.t n = false := by
  cases hf : findP S.here n with
  | none =>
    refine ⟨S, flushS_none hf, h, .refl _ _, rfl, ?_⟩
    rw [Bool.eq_false_iff]
    intro e
    obtain ⟨d, hd, e2⟩ := (has_iff _ n h.rise).1 e
    obtain ⟨f, hf2, e3⟩ := (h.tab d hd).1
    exact find_none hf f hf2 (e3.trans e2)
  | some f =>
    obtain ⟨m1, m2⟩ := find_some hf
    obtain ⟨f1, f2, f3⟩ := h.here f m1
    by_cases ht : has S.t n = true
    · have hP := h.pages
      have hlen := h.len
      have hfirst := h.first
      obtain ⟨S', q1, q2, q3, q4, q5, q6, q7, q8⟩ := flush_good h.good hf (by omega) (by omega) ht (by omega) h.size h.done (head_facts (headOk_of f3.1)).2.2
      have hrise : Rising S'.t := by rw [q4]; exact dropT_rising h.rise n
      have hsub : ∀ d ∈ S'.t, d ∈ S.t := fun d hd => by rw [q4] at hd; exact drop_mem hd
      have hno : has S'.t n = false := by
        rw [Bool.eq_false_iff]
        intro e
        obtain ⟨d, hd, e⟩ := (has_iff _ n hrise).1 e
        rw [q4] at hd
        exact drop_ne S.t n h.rise d hd e
      have hkeep : ∀ k, k ≠ n → has S'.t k = false → has S.t k = false := fun k hk e => by
        rw [Bool.eq_false_iff] at e ⊢
        intro e2
        obtain ⟨d, hd, e3⟩ := (has_iff _ k h.rise).1 e2
        exact e ((has_iff _ k hrise).2 ⟨d, by rw [q4]; exact drop_keep h.rise hd (by rw [e3]; exact hk), e3⟩)
      have hlog : ∃ dn, S'.l = { S.l with done := dn } ∧ S.l.done ≤ dn ∧ dn ≤ S.l.l.length := by
        rw [q7]
        split
        · exact ⟨_, rfl, h.done, Nat.le_refl _⟩
        · exact ⟨S.l.done, rfl, Nat.le_refl _, h.done⟩
      obtain ⟨dn, e1, e2, e3⟩ := hlog
      refine ⟨S', q1, ⟨q2, hP, by rw [q6]; exact h.frames, by rw [e1]; exact hfirst, by rw [e1]; exact h.size, by rw [e1]; exact e3, by rw [q5, q6]; exact h.few, by rw [q5]; exact h.once, by rw [q5]; exact h.here, hrise, fun d hd => ?_, fun k k1 k2 => ?_, fun g hg hgt => ?_⟩, ⟨fun k k1 k2 => ?_, q6, ⟨dn, e1, e2⟩, hsub⟩, q5, hno⟩
      · obtain ⟨t1, t2, t3⟩ := h.tab d (hsub d hd)
        refine ⟨by rw [q5]; exact t1, t2, ?_⟩
        rw [e1]; exact t3
      · rw [q3 k (by omega)]
        by_cases hk : k = n
        · rw [if_pos hk]; exact ⟨(f.lsn, f.es), rfl, f3⟩
        · rw [if_neg hk]; exact h.disk k k1 k2
      · rw [q5] at hg
        obtain ⟨g1, g2, g3⟩ := h.here g hg
        rw [q3 g.n (by omega)]
        by_cases hk : g.n = n
        · rw [if_pos hk]
          have := find_once h.once hg
          rw [hk, hf] at this
          cases this
          rfl
        · rw [if_neg hk]
          exact h.same g hg (hkeep g.n hk hgt)
      · unfold cur
        rw [q5]
        cases hfk : findP S.here k with
        | some g => rfl
        | none =>
          simp only
          rw [q3 k (by omega), if_neg]
          intro e
          rw [e, hf] at hfk
          cases hfk
    · have hn : has S.t n = false := Bool.eq_false_iff.2 ht
      exact ⟨S, flushS_clean hn, h, .refl _ _, rfl, hn⟩
theorem find_erase {l : List Fp} {k : Nat} {n : Int} (ho : l.Pairwise fun a b => a.n ≠ b.n) (hk : k < l.length) : findP (l.eraseIdx k) n = if n = l[k].n then none else findP l n := by
  split
  · rename_i e
    unfold findP
    rw [List.find?_eq_none]
    intro f hf e2
    have e3 : f.n = l[k].n := by rw [← e]; exact of_decide_eq_true e2
    rw [List.mem_eraseIdx_iff_getElem] at hf
    obtain ⟨j, hj, hne, rfl⟩ := hf
    rw [List.pairwise_iff_getElem] at ho
    rcases Nat.lt_or_gt_of_ne hne with h | h
    · exact ho j k hj hk h e3
    · exact ho k j hk hj h e3.symm
  · rename_i e
    cases hf : findP l n with
    | none =>
      unfold findP
      rw [List.find?_eq_none]
      intro f hf2 e2
      exact find_none hf f ((List.eraseIdx_sublist _ _).mem hf2) (of_decide_eq_true e2)
    | some f =>
      obtain ⟨m1, m2⟩ := find_some hf
      have hm : f ∈ l.eraseIdx k := by
        rw [List.mem_eraseIdx_iff_getElem]
        obtain ⟨j, hj, e3⟩ := List.getElem_of_mem m1
        exact ⟨j, hj, fun e4 => e (by subst e4; rw [e3, m2]), e3⟩
      have := find_once (ho.sublist (List.eraseIdx_sublist l k)) hm
      rw [m2] at this
      exact this
theorem pg_evict {N : Nat} {P : Int} {S : PSys} (hint : Int) (h : PgOk N P S) :
    ∃ S', evictS S hint = (S', none) ∧ PgOk N P S' ∧ PgTo P S S' ∧ S'.here.length = S.here.length - 1 ∧ (∀ f ∈ S'.here, f ∈ S.here) := by
  by_cases hz : S.here.length = 0
  · have hnil : S.here = [] := List.length_eq_zero_iff.1 hz
    refine ⟨S, ?_, h, .refl _ _, by omega, fun f hf => hf⟩
    unfold evictS
    rw [hnil]
    rfl
  have hk : evictK S hint < S.here.length := by unfold evictK; exact Nat.mod_lt _ (by omega)
  obtain ⟨k, hkk⟩ : ∃ k, evictK S hint = k := ⟨_, rfl⟩
  rw [hkk] at hk
  have hm : S.here[k] ∈ S.here := List.getElem_mem hk
  obtain ⟨S1, q1, q2, q3, q4, q5⟩ := pg_flush S.here[k].n h
  have hsub : ∀ f ∈ S.here.eraseIdx k, f ∈ S.here := fun f hf => (List.eraseIdx_sublist _ _).mem hf
  have hlen : (S.here.eraseIdx k).length = S.here.length - 1 := by rw [List.length_eraseIdx, if_pos hk]
  refine ⟨{ S1 with here := S1.here.eraseIdx k }, ?_, ⟨q2.good, q2.pages, q2.frames, q2.first, q2.size, q2.done, ?_, ?_, ?_, q2.rise, fun d hd => ?_, q2.disk, ?_⟩, ⟨fun j j1 j2 => ?_, q3.frames, q3.log, q3.tab⟩, ?_, ?_⟩
  · unfold evictS
    rw [hkk, List.getElem?_eq_getElem hk]
    simp only [q1]
  · show ((S1.here.eraseIdx k).length : Int) ≤ S1.frames
    rw [q4, hlen]
    have := h.few
    have := q3.frames
    omega
  · show (S1.here.eraseIdx k).Pairwise _
    rw [q4]
    exact h.once.sublist (List.eraseIdx_sublist _ _)
  · show ∀ f ∈ S1.here.eraseIdx k, _
    rw [q4]
    exact fun f hf => h.here f (hsub f hf)
  · obtain ⟨⟨f, hf, e⟩, t2, t3⟩ := q2.tab d hd
    rw [q4] at hf
    refine ⟨⟨f, ?_, e⟩, t2, t3⟩
    show f ∈ S1.here.eraseIdx k
    rw [q4]
    have hne : f ≠ S.here[k] := fun e2 => by
      rw [Bool.eq_false_iff] at q5
      exact q5 ((has_iff _ _ q2.rise).2 ⟨d, hd, by rw [← e, e2]⟩)
    rw [List.mem_eraseIdx_iff_getElem]
    obtain ⟨j, hj, e3⟩ := List.getElem_of_mem hf
    exact ⟨j, hj, fun e4 => hne (by subst e4; exact e3.symm), e3⟩
  · show ∀ f ∈ S1.here.eraseIdx k, _
    rw [q4]
    intro f hf hft
    exact q2.same f (by rw [q4]; exact hsub f hf) hft
  · rw [← q3.cur j j1 j2]
    unfold cur
    show (match findP (S1.here.eraseIdx k) j with | some f => (f.lsn, f.es) | none => (readPage (readV S1.d j)).getD (0, [])) = _
    rw [q4, find_erase h.once hk]
    by_cases hj : j = S.here[k].n
    · rw [if_pos hj]
      have hfd := find_once h.once hm
      rw [← hj] at hfd
      rw [hfd]
      simp only
      have h1 := q2.same S.here[k] (by rw [q4]; exact hm) q5
      rw [hj, h1, page_back (h.here _ hm).2.2]
      rfl
    · rw [if_neg hj]
  · show (S1.here.eraseIdx k).length = _
    rw [q4]; exact hlen
  · show ∀ f ∈ S1.here.eraseIdx k, _
    rw [q4]
    exact hsub
theorem pg_tail {N : Nat} {P : Int} {S : PSys} {n : Int} (h : PgOk N P S) (h1 : 1 ≤ n) (h2 : n ≤ P) (hn : findP S.here n = none) (hl : (S.here.length : Int) < S.frames) :
    ∃ S', getTail S n = (S', cur S n, .fine) ∧ PgOk N P S' ∧ PgTo P S S' ∧ findP S'.here n = some ⟨n, (cur S n).1, (cur S n).2⟩ := by
  obtain ⟨g, g1, g2⟩ := h.disk n h1 h2
  have hcur := cur_none hn g1 g2
  have hlen := h.len
  have hht : has S.t n = false := by
    rw [Bool.eq_false_iff]
    intro e
    obtain ⟨d, hd, e2⟩ := (has_iff _ n h.rise).1 e
    obtain ⟨⟨f, hf, e3⟩, _⟩ := h.tab d hd
    exact find_none hn f hf (e3.trans e2)
  rw [hcur]
  refine ⟨{ S with here := S.here ++ [⟨n, g.1, g.2⟩] }, ?_, ⟨h.good, h.pages, h.frames, h.first, h.size, h.done, ?_, ?_, ?_, h.rise, fun d hd => ?_, h.disk, ?_⟩, ⟨fun k k1 k2 => ?_, rfl, ⟨S.l.done, rfl, Nat.le_refl _⟩, fun d hd => hd⟩, find_last hn rfl⟩
  · unfold getTail
    rw [h.good.readE (by omega) (by omega)]
    simp only
    rw [g1, page_back g2]
  · show ((S.here ++ [_]).length : Int) ≤ S.frames
    rw [List.length_append]; simp; omega
  · show (S.here ++ [_]).Pairwise _
    rw [List.pairwise_append]
    refine ⟨h.once, List.pairwise_singleton _ _, fun a ha b hb => ?_⟩
    rw [List.mem_singleton] at hb
    subst hb
    exact find_none hn a ha
  · show ∀ f ∈ S.here ++ [_], _
    intro f hf
    rcases List.mem_append.1 hf with hf | hf
    · exact h.here f hf
    · rw [List.mem_singleton] at hf
      subst hf
      exact ⟨h1, h2, g2⟩
  · obtain ⟨⟨f, hf, e⟩, t2, t3⟩ := h.tab d hd
    exact ⟨⟨f, List.mem_append_left _ hf, e⟩, t2, t3⟩
  · show ∀ f ∈ S.here ++ [_], _
    intro f hf hft
    rcases List.mem_append.1 hf with hf | hf
    · exact h.same f hf hft
    · rw [List.mem_singleton] at hf
      subst hf
      exact g1
  · by_cases hk : k = n
    · subst hk
      rw [hcur]
      exact cur_here (S := { S with here := S.here ++ [⟨k, g.1, g.2⟩] }) (find_last hn rfl)
    · unfold cur
      show (match findP (S.here ++ [⟨n, g.1, g.2⟩]) k with | some f => (f.lsn, f.es) | none => (readPage (readV S.d k)).getD (0, [])) = _
      have e : findP (S.here ++ [⟨n, g.1, g.2⟩]) k = findP S.here k := by
        unfold findP
        rw [List.find?_append]
        have : ([⟨n, g.1, g.2⟩] : List Fp).find? (fun f => decide (f.n = k)) = none := by
          simp
          omega
        rw [this, Option.or_none]
      rw [e]
theorem PgTo.trans {P : Int} {S S1 S2 : PSys} (h : PgTo P S S1) (k : PgTo P S1 S2) : PgTo P S S2 := by
  obtain ⟨a, a1, a2⟩ := h.log
  obtain ⟨b, b1, b2⟩ := k.log
  exact ⟨fun j j1 j2 => (k.cur j j1 j2).trans (h.cur j j1 j2), k.frames.trans h.frames, ⟨b, by rw [b1, a1], by rw [a1] at b2; exact Nat.le_trans a2 b2⟩, fun d hd => h.tab d (k.tab d hd)⟩
theorem pg_get {N : Nat} {P : Int} {S : PSys} {n : Int} (hint : Int) (h : PgOk N P S) (h1 : 1 ≤ n) (h2 : n ≤ P) :
    ∃ S', getS S n hint = (S', cur S n, .fine) ∧ PgOk N P S' ∧ PgTo P S S' ∧ findP S'.here n = some ⟨n, (cur S n).1, (cur S n).2⟩ := by
  cases hf : findP S.here n with
  | some f =>
    obtain ⟨m1, m2⟩ := find_some hf
    refine ⟨S, by rw [getS_found hf, cur_here hf], h, .refl _ _, ?_⟩
    rw [hf, cur_here hf]
    simp only
    rw [← m2]
  | none =>
    by_cases hr : S.frames ≤ S.here.length
    · obtain ⟨S', v1, v2, v3, v4, v5⟩ := pg_evict hint h
      have hn' : findP S'.here n = none := by
        unfold findP
        rw [List.find?_eq_none]
        intro f hf2 e
        exact find_none hf f (v5 f hf2) (of_decide_eq_true e)
      have hfew := h.few
      have hfr := h.frames
      have hfr2 := v3.frames
      obtain ⟨S2, t1, t2, t3, t4⟩ := pg_tail v2 h1 h2 hn' (by omega)
      have hc := v3.cur n h1 h2
      rw [hc] at t1 t4
      exact ⟨S2, by rw [getS_evict hf (by omega) hr v1, t1], t2, v3.trans t3, t4⟩
    · obtain ⟨S2, t1, t2, t3, t4⟩ := pg_tail h h1 h2 hf (by omega)
      exact ⟨S2, by rw [getS_room hf (by omega) hr, t1], t2, t3, t4⟩
theorem pg_append {N : Nat} {P : Int} {S : PSys} {r : RecV} (h : PgOk N P S) (hr : recOk r = true) (hm : 1 ≤ S.l.room) (hB : S.l.first + S.l.blocks ≤ N) :
    appendE S.l r = none ∧ appendN S.l r = S.l.last + 1 ∧ appendL S.l r = { S.l with l := S.l.l ++ [r] } ∧ PgOk N P { S with l := { S.l with l := S.l.l ++ [r] } } := by
  obtain ⟨a1, a2, a3⟩ := append_room hr hm
  refine ⟨a1, a2, a3, ⟨h.good, h.pages, h.frames, h.first, ?_, ?_, h.few, h.once, h.here, h.rise, fun d hd => ?_, h.disk, h.same⟩⟩
  · show S.l.first * 6 + ((S.l.l ++ [r]).length : Nat) ≤ N * 6
    rw [List.length_append]
    unfold Lg.room at hm
    simp
    omega
  · show S.l.done ≤ (S.l.l ++ [r]).length
    rw [List.length_append]
    have := h.done
    omega
  · obtain ⟨t1, t2, t3⟩ := h.tab d hd
    refine ⟨t1, t2, ?_⟩
    unfold Lg.last at *
    show d.2 ≤ S.l.base + ((S.l.l ++ [r]).length : Nat)
    rw [List.length_append]
    simp
    omega
theorem pg_set {N : Nat} {P : Int} {S : PSys} {n lsn : Int} {es : List (Int × Int)} {f : Fp} (h : PgOk N P S) (hf : findP S.here n = some f) (hv : PageV lsn es) (h1 : 1 ≤ lsn) (h2 : lsn ≤ S.l.last) :
    ∃ S', setS S n lsn es = (S', none) ∧ PgOk N P S' ∧ (∀ k, cur S' k = if k = n then (lsn, es) else cur S k) ∧ S'.l = S.l ∧ S'.d = S.d ∧ S'.frames = S.frames ∧ S'.t = addT S.t n lsn ∧ S'.here.map (·.n) = S.here.map (·.n) := by
  have hn : ∀ x : Fp, (if x.n = n then (⟨n, lsn, es⟩ : Fp) else x).n = x.n := fun x => by split <;> simp [*]
  have hfind : ∀ k, findP (S.here.map fun g => if g.n = n then ⟨n, lsn, es⟩ else g) k = if k = n then some ⟨n, lsn, es⟩ else findP S.here k := fun k => by
    by_cases hk : k = n
    · subst hk
      rw [if_pos rfl]
      obtain ⟨m1, m2⟩ := find_some hf
      unfold findP
      have : ∀ l : List Fp, f ∈ l → (l.map fun g => if g.n = k then (⟨k, lsn, es⟩ : Fp) else g).find? (fun f => decide (f.n = k)) = some ⟨k, lsn, es⟩ := by
        intro l
        induction l with
        | nil => intro h; cases h
        | cons x xs ih =>
          intro hm
          rw [List.map_cons, List.find?_cons]
          by_cases hx : x.n = k
          · simp [hx]
          · simp only [hx, if_false, decide_false]
            rcases List.mem_cons.1 hm with rfl | hm
            · exact absurd m2 hx
            · exact ih hm
      exact this _ m1
    · rw [if_neg hk]
      unfold findP
      generalize S.here = l
      induction l with
      | nil => rfl
      | cons x xs ih =>
        rw [List.map_cons, List.find?_cons, List.find?_cons, hn]
        by_cases hx : x.n = k
        · simp only [hx, decide_true, if_neg hk]
        · simp only [hx, decide_false]
          exact ih
  refine ⟨_, setS_ok hf hv.1, ⟨h.good, h.pages, h.frames, h.first, h.size, h.done, ?_, ?_, ?_, addT_rising h.rise _ _, fun d hd => ?_, h.disk, ?_⟩, fun k => ?_, rfl, rfl, rfl, rfl, ?_⟩
  · show ((S.here.map _).length : Int) ≤ S.frames
    rw [List.length_map]; exact h.few
  · show (S.here.map _).Pairwise _
    rw [List.pairwise_map]
    refine h.once.imp fun {a b} hab => ?_
    rw [hn, hn]; exact hab
  · show ∀ g ∈ S.here.map _, _
    intro g hg
    obtain ⟨y, hy, rfl⟩ := List.mem_map.1 hg
    obtain ⟨e1, e2, e3⟩ := h.here y hy
    by_cases hyn : y.n = n
    · rw [if_pos hyn]; exact ⟨by rw [← hyn]; exact e1, by rw [← hyn]; exact e2, hv⟩
    · rw [if_neg hyn]; exact ⟨e1, e2, e3⟩
  · obtain ⟨m1, m2⟩ := find_some hf
    rcases add_mem hd with hd | hd
    · obtain ⟨⟨y, hy, e⟩, t2, t3⟩ := h.tab d hd
      exact ⟨⟨_, List.mem_map.2 ⟨y, hy, rfl⟩, by rw [hn]; exact e⟩, t2, t3⟩
    · refine ⟨⟨_, List.mem_map.2 ⟨f, m1, rfl⟩, by rw [hn, m2, hd]⟩, by rw [hd]; exact h1, by rw [hd]; exact h2⟩
  · show ∀ g ∈ S.here.map _, _
    intro g hg hgt
    obtain ⟨y, hy, rfl⟩ := List.mem_map.1 hg
    by_cases hyn : y.n = n
    · exfalso
      rw [hn, hyn] at hgt
      have e' : has (addT S.t n lsn) n = false := hgt
      rw [has_add_self h.rise] at e'
      cases e'
    · rw [if_neg hyn] at hgt ⊢
      exact h.same y hy (has_add h.rise hgt)
  · unfold cur
    show (match findP (S.here.map fun g => if g.n = n then ⟨n, lsn, es⟩ else g) k with | some f => (f.lsn, f.es) | none => (readPage (readV S.d k)).getD (0, [])) = _
    rw [hfind k]
    by_cases hk : k = n
    · rw [if_pos hk, if_pos hk]
    · rw [if_neg hk, if_neg hk]
  · show (S.here.map _).map _ = _
    rw [List.map_map]
    exact List.map_congr_left fun x _ => hn x
theorem pg_log {N : Nat} {P : Int} {S : PSys} (h : PgOk N P S) :
    ∃ d', lflush S.l S.d = ({ S.l with done := S.l.l.length }, d', none) ∧ PgOk N P { S with l := { S.l with done := S.l.l.length }, d := d' } ∧ (∀ k, 1 ≤ k → k ≤ P → cur { S with l := { S.l with done := S.l.l.length }, d := d' } k = cur S k) := by
  have hP := h.pages
  have hfirst := h.first
  obtain ⟨a1, a2, a3, a4⟩ := h.good.lflush (L := S.l) (by omega) h.size h.done
  obtain ⟨q, hq⟩ : ∃ q, lflush S.l S.d = q := ⟨_, rfl⟩
  rw [hq] at a1 a2 a3 a4
  obtain ⟨L', d', o⟩ := q
  simp only at a1 a2 a3 a4
  subst a1 a2
  refine ⟨d', hq, ⟨a3, hP, h.frames, hfirst, h.size, Nat.le_refl _, h.few, h.once, h.here, h.rise, h.tab, fun k k1 k2 => ?_, fun f hf hft => ?_⟩, fun k k1 k2 => ?_⟩
  · show ∃ g : Pg, readV d' k = _ ∧ _
    rw [a4 k (by omega)]; exact h.disk k k1 k2
  · obtain ⟨f1, f2, _⟩ := h.here f hf
    show readV d' f.n = _
    rw [a4 f.n (by omega)]; exact h.same f hf hft
  · unfold cur
    show (match findP S.here k with | some f => (f.lsn, f.es) | none => (readPage (readV d' k)).getD (0, [])) = _
    rw [a4 k (by omega)]
theorem lflush_tight {n : Nat} {L : Lg} {d : Dsk} {m : Nat} (h : GoodD.Good d n) (hL : 0 ≤ L.first) (hr : L.first * 6 + L.l.length ≤ n * 6) (hl : LooseLe d m) : LooseLe (lflush L d).2.1 m := by
  unfold RecD.lflush
  by_cases he : L.done = L.l.length
  · rw [if_pos he]; exact hl
  · rw [if_neg he]
    obtain ⟨g1, g2, g3⟩ := Good.from hL hr (L.l.length + 1) (L.done / 6) d h
    obtain ⟨q, hq⟩ : ∃ q, flushFrom L (L.l.length + 1) (L.done / 6) d = q := ⟨_, rfl⟩
    rw [hq] at g1 g2 ⊢
    obtain ⟨d', o⟩ := q
    simp only at g1 g2
    subst g1
    obtain ⟨s1, s2, s3⟩ := g2.sync
    simp only [s1]
    intro s hs
    have hd : (syncD d').l = d'.l.map fastS := by
      unfold syncD
      rw [if_neg (by rw [g2.on]; decide), if_pos g2.spendB]
    rw [hd] at hs
    obtain ⟨s0, _, rfl⟩ := List.mem_map.1 hs
    simp [fastS]
theorem flushS_tight {N : Nat} {P : Int} {S : PSys} {m : Nat} (n : Int) (h : PgOk N P S) (hl : LooseLe S.d m) : LooseLe (flushS S n).1.d (m + 1) := by
  have hP := h.pages
  have hfirst := h.first
  have hl2 := lflush_tight (L := S.l) h.good (by omega) h.size hl
  unfold flushS
  split
  · exact hl.mono (by omega)
  · rename_i f hfd
    split
    · exact hl.mono (by omega)
    · by_cases hd : S.l.doneN < f.lsn
      · simp only [if_pos hd]
        split
        · exact hl2.mono (by omega)
        · split
          · exact writeD_loose n (pageBytes f.lsn f.es) hl2
          · exact writeD_loose n (pageBytes f.lsn f.es) hl2
      · simp only [if_neg hd]
        split
        · exact writeD_loose n (pageBytes f.lsn f.es) hl
        · exact writeD_loose n (pageBytes f.lsn f.es) hl
theorem evictS_tight {N : Nat} {P : Int} {S : PSys} {m : Nat} (hint : Int) (h : PgOk N P S) (hl : LooseLe S.d m) : LooseLe (evictS S hint).1.d (m + 1) := by
  rcases evictS_d S hint with e | ⟨n, e⟩
  · rw [e]; exact hl.mono (by omega)
  · rw [e]; exact flushS_tight n h hl
theorem getS_tight {N : Nat} {P : Int} {S : PSys} {m : Nat} (n hint : Int) (h : PgOk N P S) (hl : LooseLe S.d m) : LooseLe (getS S n hint).1.d (m + 1) := by
  rcases getS_d S n hint with e | e
  · rw [e]; exact hl.mono (by omega)
  · rw [e]; exact evictS_tight hint h hl
end Go.Proofs.YtaplpeoikebedaaGreatDoor.Pager
