/- Joined texts: RecB, Fill. No condition but what each says. -/
import Derived.Test.YtaplpeoikebedaaGreatDoorV8
import Derived.Test.YtaplpeoikebedaaGreatDoorV7
import Derived.Test.YtaplpeoikebedaaGreatDoorV2
set_option maxHeartbeats 8000000
set_option maxRecDepth 100000
set_option linter.unusedVariables false
set_option linter.unusedSimpArgs false
namespace Go.Proofs.YtaplpeoikebedaaGreatDoor.RecB
open Go.RowKit YtaplpeoikebedaaGreatDoorW.PrintWords YtaplpeoikebedaaGreatDoorW.PrintLast YtaplpeoikebedaaGreatDoorW.PrintMore
open See Mem Clone Go.Proofs.YtaplpeoikebedaaGreatDoor.Cell Page PageB PageR Disk RecD Rec RecC
attribute [local go_sem] max2_imax min2_imin max_two min_two
def z40 : Array Value := madeCells #[.int .u8 0] 40
theorem z40_list : z40.toList = (List.replicate 40 (0 : Int)).map (.int .u8) := by rw [z40, toList_madeCells_one, List.map_replicate]
theorem make40 (W : World) : (Instr.makeSlice 93 (.int .i64 40) (.int .i64 40)).run Tryz.prog W = .ok (.slice (some ⟨W.heap.size, 0, none⟩) 40 40) (W.alloc (.cells z40 5)) :=
  run_make_row' (P := Tryz.prog) 93 5 (.int .u8 0) 1 Tryz.underlying93 info_u8 rfl .i64 .i64 40 (by decide) (by decide) W
theorem bs_z40 {W : World} {b : Nat} (h : W.heap[b]? = some (.cells z40 5 (0, 0))) : BS W (.slice (some ⟨b, 0, none⟩) 40 40) (List.replicate 40 0) := by
  have hl : z40.size = 40 := size_madeCells _ _
  refine ⟨by simp, by simp, .inr ⟨b, 0, 40, z40, _, by simp, h, by simp, by decide, by simp [hl], ?_⟩⟩
  rw [List.drop_zero, z40_list, List.length_replicate]
  exact List.take_of_length_le (by simp)
def partsA (r : RecV) : Array Value := #[.int .u64 0, .int .u64 1, .int .u64 (IntKind.u64.wrap r.kind), .int .u64 1, .int .u64 1, .int .u64 (IntKind.u64.wrap (flagsOf r)), .int .u64 2, .int .u64 2, .int .u64 (IntKind.u64.wrap r.txn), .int .u64 4, .int .u64 2, .int .u64 (IntKind.u64.wrap r.page), .int .u64 8, .int .u64 4, .int .u64 (IntKind.u64.wrap r.prev), .int .u64 12, .int .u64 4, .int .u64 (IntKind.u64.wrap r.next), .int .u64 16, .int .u64 4, .int .u64 (IntKind.u64.wrap r.key), .int .u64 24, .int .u64 8, .int .u64 (IntKind.u64.wrap r.old), .int .u64 32, .int .u64 8, .int .u64 (IntKind.u64.wrap r.new)]
theorem partsA_at (r : RecV) : ∀ i, i < 9 → (partsA r)[i * 3]? = some (.int .u64 (recPart r i).1) ∧ (partsA r)[i * 3 + 1]? = some (.int .u64 (recPart r i).2.1) ∧ (partsA r)[i * 3 + 2]? = some (.int .u64 (IntKind.u64.wrap (recPart r i).2.2)) := by
  intro i hi
  match i, hi with
  | 0, _ => exact ⟨rfl, rfl, rfl⟩
  | 1, _ => exact ⟨rfl, rfl, rfl⟩
  | 2, _ => exact ⟨rfl, rfl, rfl⟩
  | 3, _ => exact ⟨rfl, rfl, rfl⟩
  | 4, _ => exact ⟨rfl, rfl, rfl⟩
  | 5, _ => exact ⟨rfl, rfl, rfl⟩
  | 6, _ => exact ⟨rfl, rfl, rfl⟩
  | 7, _ => exact ⟨rfl, rfl, rfl⟩
  | 8, _ => exact ⟨rfl, rfl, rfl⟩
theorem flags_or (hd hh : Bool) (r : RecV) (h1 : r.had = hd) (h2 : r.has = hh) : (if hh then bits .or .u64 (if hd then bits .or .u64 0 1 else 0) 2 else (if hd then bits .or .u64 0 1 else 0)) = IntKind.u64.wrap (flagsOf r) := by
  unfold flagsOf; rw [h1, h2]
  cases hd <;> cases hh <;> decide
def recBV (r : RecV) : List Int := if recOk r then recBytes r else []
theorem rbytes_calls (a : Nat → Addr) (r : RecV) (w : World) (hs : Sents w a) :
    Calls Tryz.prog 190 #[recV r] w fun e w' => ∃ v, e = .returned (.tuple #[v, errv a (recE r)]) ∧ BS w' v (recBV r) ∧ Below w.heap.size w w' := by
  have HS := Aside0.mk hs
  clear hs
  obtain ⟨k, t, pg, pv, nx, ky, hd, hh, ol, nw⟩ := r
  obtain ⟨ok, hok⟩ : ∃ ok, recOk ⟨k, t, pg, pv, nx, ky, hd, hh, ol, nw⟩ = ok := ⟨_, rfl⟩
  have HOK := Aside0.mk hok
  clear hok
  go_enter Tryz.func190, Tryz.ntmps190
  go_wp2_with fail
  refine (check_calls a ⟨k, t, pg, pv, nx, ky, hd, hh, ol, nw⟩ _ (by exact HS.out.below (below_alloc (Below.refl _ _) _))).mono ?_
  rintro e w1 ⟨rfl, hb⟩
  have hc0 : w1.cell? ⟨w.heap.size, 0, none⟩ = some (.int .i64 k) := (hb.cell (p := ⟨w.heap.size, 0, none⟩) (by simp)).trans (by simp)
  have hc1 : w1.cell? ⟨w.heap.size, 1, none⟩ = some (.int .i64 t) := (hb.cell (p := ⟨w.heap.size, 1, none⟩) (by simp)).trans (by simp)
  have hc2 : w1.cell? ⟨w.heap.size, 2, none⟩ = some (.int .i64 pg) := (hb.cell (p := ⟨w.heap.size, 2, none⟩) (by simp)).trans (by simp)
  have hc3 : w1.cell? ⟨w.heap.size, 3, none⟩ = some (.int .i64 pv) := (hb.cell (p := ⟨w.heap.size, 3, none⟩) (by simp)).trans (by simp)
  have hc4 : w1.cell? ⟨w.heap.size, 4, none⟩ = some (.int .i64 nx) := (hb.cell (p := ⟨w.heap.size, 4, none⟩) (by simp)).trans (by simp)
  have hc5 : w1.cell? ⟨w.heap.size, 5, none⟩ = some (.int .i64 ky) := (hb.cell (p := ⟨w.heap.size, 5, none⟩) (by simp)).trans (by simp)
  have hc6 : w1.cell? ⟨w.heap.size, 6, none⟩ = some (.bool hd) := (hb.cell (p := ⟨w.heap.size, 6, none⟩) (by simp)).trans (by simp)
  have hc7 : w1.cell? ⟨w.heap.size, 7, none⟩ = some (.bool hh) := (hb.cell (p := ⟨w.heap.size, 7, none⟩) (by simp)).trans (by simp)
  have hc8 : w1.cell? ⟨w.heap.size, 8, none⟩ = some (.int .i64 ol) := (hb.cell (p := ⟨w.heap.size, 8, none⟩) (by simp)).trans (by simp)
  have hc9 : w1.cell? ⟨w.heap.size, 9, none⟩ = some (.int .i64 nw) := (hb.cell (p := ⟨w.heap.size, 9, none⟩) (by simp)).trans (by simp)
  have hz : w.heap.size < w1.heap.size := by have := hb.size; simp at this; omega
  have HB := Aside0.mk (below_step (below_alloc (Below.refl w.heap.size w) (.cells #[.int .i64 k, .int .i64 t, .int .i64 pg, .int .i64 pv, .int .i64 nx, .int .i64 ky, .bool hd, .bool hh, .int .i64 ol, .int .i64 nw] 46)) hb)
  clear hb
  cases ok with
  | false =>
    have hce : errv a (recE ⟨k, t, pg, pv, nx, ky, hd, hh, ol, nw⟩) = .iface 333 (.pointer (some (a 1))) := by unfold recE; rw [HOK.out]; rfl
    have HCE := Aside0.mk hce
    rw [hce]
    clear hce
    go_wp2_with fail
    exact bodyPost_ret (v := .tuple #[.slice none 0 0, .iface 333 (.pointer (some (a 1)))]) (by simp [results, Tryz.results190, go_sem]) rfl ⟨_, by first | rfl | rw [HCE.out], by unfold recBV; rw [HOK.out]; exact BS.nil _, HB.out⟩
  | true =>
    have hce : errv a (recE ⟨k, t, pg, pv, nx, ky, hd, hh, ol, nw⟩) = .nilIface := by unfold recE; rw [HOK.out]; rfl
    have HCE := Aside0.mk hce
    rw [hce]
    clear hce
    have hmk := make40
    obtain ⟨f1, hf1⟩ : ∃ f1 : Int, (if hd then bits .or .u64 0 1 else 0) = f1 := ⟨_, rfl⟩
    obtain ⟨f2, hf2⟩ : ∃ f2 : Int, (if hh then bits .or .u64 f1 2 else f1) = f2 := ⟨_, rfl⟩
    have HF1 := Aside0.mk hf1
    have HF2 := Aside0.mk hf2
    clear hf1 hf2
    go_upto_if 15 with fail
    go_cut [5] (fun s5 wx => s5 = .int .u64 f1 ∧ wx = w1)
    case first =>
      have := HF1.out
      cases hd with
      | true => go_wp2_with fail; go_meet; exact ⟨by rw [← this]; rfl, rfl⟩
      | false => go_wp2_with fail; go_meet; exact ⟨by rw [← this]; rfl, rfl⟩
    case rest =>
    obtain ⟨rfl, rfl⟩ := hcut
    go_upto_if 19 with fail
    go_cut [5] (fun s5 wx => s5 = .int .u64 f2 ∧ wx = wc)
    case first =>
      have := HF2.out
      cases hh with
      | true => go_wp2_with fail; go_meet; exact ⟨by rw [← this]; rfl, rfl⟩
      | false => go_wp2_with fail; go_meet; exact ⟨by rw [← this]; rfl, rfl⟩
    case rest =>
    obtain ⟨rfl, rfl⟩ := hcut
    have hf3 : f2 = IntKind.u64.wrap (flagsOf ⟨k, t, pg, pv, nx, ky, hd, hh, ol, nw⟩) := by rw [← HF2.out, ← HF1.out]; exact flags_or hd hh _ rfl rfl
    have HF3 := Aside0.mk hf3
    clear hf3
    obtain ⟨wo, rfl⟩ : ∃ wo : World, wo = wc := ⟨_, rfl⟩
    go_wp2_with fail
    obtain ⟨r, hr⟩ : ∃ r : RecV, r = ⟨k, t, pg, pv, nx, ky, hd, hh, ol, nw⟩ := ⟨_, rfl⟩
    have HRR := Aside0.mk hr
    clear hr
    clear hc0 hc1 hc2 hc3 hc4 hc5 hc6 hc7 hc8 hc9
    go_loopg [6, 59] 10 (fun kq v6 v59 w' => ∃ (i : Int) (v : Value), v6 = v ∧ v59 = .int .i64 i ∧ Aside0 (0 ≤ i ∧ i ≤ 9 ∧ (kq : Int) = 10 - i) ∧ Aside0 (w'.heap[wo.heap.size + 1]? = some (.cells (partsA r) 304 (0, 0))) ∧ Aside0 (BS w' v (recN r i.toNat)) ∧ Aside0 (Below w.heap.size w w'))
    case atStart =>
      refine ⟨0, _, rfl, rfl, ⟨by omega, by omega, by omega⟩, ⟨?_⟩, ⟨?_⟩, ⟨by repeat (first | exact HB.out | apply below_drew1 | apply below_alloc)⟩⟩
      · rw [HRR.out]
        unfold partsA
        simp only
        rw [← HF3.out]
        show ((wo.heap.push _).push _)[wo.heap.size + 1]? = _
        rw [show wo.heap.size + 1 = (wo.heap.push (Obj.cells z40 5)).size from by simp]
        exact Array.getElem?_push_size
      · exact bs_z40 (by
          show ((wo.heap.push _).push _)[wo.heap.size]? = _
          rw [Array.getElem?_push, if_neg (by simp), Array.getElem?_push_size])
    case round =>
      obtain ⟨i, v, rfl, rfl, HI, HP, HV, HB2⟩ := hrel
      have hi0 : 0 ≤ i := HI.out.1
      by_cases hlt : i < 9
      · obtain ⟨p0, p1, p2⟩ := partsA_at r i.toNat (by omega)
        obtain ⟨q0, q1, q2, q3⟩ := recPart_fits r i.toNat (by omega)
        have hl : (recN r i.toNat).length = 40 := recN_len r i.toNat (by omega)
        have hstep : recN r (i.toNat + 1) = putL (recN r i.toNat) (recPart r i.toNat).1.toNat (recPart r i.toNat).2.1.toNat (IntKind.u64.wrap (recPart r i.toNat).2.2) := rfl
        obtain ⟨⟨x0, x1, x2⟩, hx⟩ : ∃ x, recPart r i.toNat = x := ⟨_, rfl⟩
        rw [hx] at p0 p1 p2 q0 q1 q2 q3 hstep
        simp only at p0 p1 p2 q0 q1 q2 q3 hstep
        have hd0 : wr.cell? ⟨wo.heap.size + 1, i.toNat * 3, none⟩ = some (.int .u64 x0) := by simp only [World.cell?, HP.out]; simpa using p0
        have hd1 : wr.cell? ⟨wo.heap.size + 1, i.toNat * 3 + 1, none⟩ = some (.int .u64 x1) := by simp only [World.cell?, HP.out]; simpa using p1
        have hd2 : wr.cell? ⟨wo.heap.size + 1, i.toNat * 3 + 2, none⟩ = some (.int .u64 (IntKind.u64.wrap x2)) := by simp only [World.cell?, HP.out]; simpa using p2
        obtain ⟨y, hy⟩ : ∃ y, IntKind.u64.wrap x2 = y := ⟨_, rfl⟩
        have hy0 : 0 ≤ y := by rw [← hy]; exact u64_nonneg _
        rw [hy] at hd2 hstep
        have q4 : x0 ≤ 40 := by omega
        have q5 : x1 ≤ 40 := by omega
        have hw0 : IntKind.i64.wrap x0 = x0 := IntWalk.i64_in _ (by omega)
        have hw1 : IntKind.i64.wrap x1 = x1 := IntWalk.i64_in _ (by omega)
        have HST := Aside0.mk hstep
        have HLL := Aside0.mk hl
        clear p0 p1 p2 hl hstep hx hy
        go_wp2_with fail
        refine (put_calls _ (recN r i.toNat) x0 x1 y (by omega) (by omega) (by omega) (by rw [HLL.out]; omega) hy0 _ (BS.below HV.out (by repeat (first | exact Below.refl _ _ | apply below_drew1 | apply below_alloc)))).mono ?_
        rintro e w5 ⟨v5, rfl, hv5, hb5⟩
        have HV5 := Aside0.mk hv5
        have HB5 := Aside0.mk (below_step (by repeat (first | exact HB2.out | apply below_drew1 | apply below_alloc)) hb5)
        have HP5 := Aside0.mk (show w5.heap[wo.heap.size + 1]? = some (.cells (partsA r) 304 (0, 0)) from by
          have hlt := heap_lt HP.out
          rw [hb5.block (wo.heap.size + 1) (by simp; omega)]
          exact (Below.heap_alloc _ _ _ hlt).trans HP.out)
        clear hv5 hb5 hw0 hw1
        go_wp2_with fail
        go_roundg (gk - 1)
        case measure => have := HI.out; omega
        case rel =>
          refine ⟨i + 1, _, rfl, rfl, ⟨by omega, by omega, by have := HI.out; omega⟩, HP5, ⟨?_⟩, HB5⟩
          rw [show (i + 1).toNat = i.toNat + 1 from by omega, HST.out]
          exact HV5.out
      · have HE := Aside0.mk (show recN r i.toNat = recBV ⟨k, t, pg, pv, nx, ky, hd, hh, ol, nw⟩ by
          unfold recBV
          rw [HOK.out, show i.toNat = 9 from by have := HI.out; omega, HRR.out]; rfl)
        go_wp2_with fail
        exact bodyPost_ret (v := .tuple #[u6, .nilIface]) (by simp [results, Tryz.results190, go_sem]) rfl ⟨u6, by rw [HCE.out], by
          have := HV.out
          rw [HE.out] at this
          exact this, HB2.out⟩
end Go.Proofs.YtaplpeoikebedaaGreatDoor.RecB
namespace Go.Proofs.YtaplpeoikebedaaGreatDoor.Fill
open Go.RowKit YtaplpeoikebedaaGreatDoorW.PrintWords YtaplpeoikebedaaGreatDoorW.PrintLast YtaplpeoikebedaaGreatDoorW.PrintMore
open See Mem Clone Go.Proofs.YtaplpeoikebedaaGreatDoor.Cell Page PageB PageR Disk DiskN DiskW RecD
attribute [local go_sem] max2_imax min2_imin max_two min_two
theorem wpList_append_zeros {P : Program} (w : World) {ops : Array Oper} {rest : List Oper} {o : Oper} {a : Act} {Q : Exit → Act → World → Prop}
    (hg : o.guard = none) (s x : Operand) (t ti : TypeId) (hop : o.op = Op.call { callee := Callee.builtin Builtin.append, args := #[s, x], argTypes := #[t, ti] })
    (base : Nat) (e : TypeId) (i : TypeInfo) (z : Value) (size bytes : Nat) (ht : P.underlying t = some (.slice e)) {k : IntKind} (hti : P.underlying ti = some (.int k)) (hi : P.info? e = some i) (hz : i.zero = some z)
    (hsize : i.size = size) (hby : i.bytes = bytes) (hzs : z.cells.size = size) (hsz : 0 < size) (hb0 : 0 < bytes)
    (v : Value) (n : Nat) (xs : List Value) (hs : a.eval s = v) (hown : w.ownsRow base e size v n xs) (kx : IntKind) (m : Nat) (l : Int) (hx : a.eval x = .int kx l) (hl : l = (m : Int)) (h1 : ∀ u ∈ (Builtin.zeroCells z.cells m).toList, u.oneCell' = true)
    (hbytes : (n + m) * bytes ≤ 140737488355328) (hbase : base ≤ w.heap.size)
    (hK : ∀ v' w', w'.ownsRow base e size v' (n + m) (xs ++ (Builtin.zeroCells z.cells m).toList) → w.grownBy w' v.ownBlock → wpList P ops Q rest (a.put o.dst v') w') :
    wpList P ops Q (o :: rest) a w := by
  subst hl
  refine wpList_plain hg fun K hK' => ?_
  obtain ⟨v', w', hrun, h2, h3, _⟩ := run_append_zeros (P := P) w base t ti o.type e i z size bytes ht hti hi hz hsize hby hzs hsz hb0 v n xs hown kx m h1 hbytes hbase
  unfold Oper.wp
  simp [execOp, hop, resolve, invoke, builtin, hs, hx, hrun, Result.andThen]
  exact hK' _ _ (hK v' w' h2 h3)
theorem wpList_append_any_rd {P : Program} (w : World) {ops : Array Oper} {rest : List Oper} {o : Oper} {a : Act} {Q : Exit → Act → World → Prop}
    (hg : o.guard = none) (s x : Operand) (t : TypeId) (hop : o.op = Op.call { callee := Callee.builtin Builtin.append, args := #[s, x], argTypes := #[t, t] })
    (base : Nat) (e : TypeId) (i : TypeInfo) (z : Value) (size bytes : Nat) (ht : P.underlying t = some (.slice e)) (hi : P.info? e = some i) (hz : i.zero = some z)
    (hsize : i.size = size) (hby : i.bytes = bytes) (hzs : z.cells.size = size) (hsz : 0 < size)
    (v : Value) (n : Nat) (xs : List Value) (hs : a.eval s = v) (hown : w.ownsRow base e size v n xs) (A : Option Addr) (m c : Nat) (news : List Value) (hx : a.eval x = .slice A m c) (hrd : Rd w e size (.slice A m c) m news) (h1 : ∀ u ∈ news, u.oneCell' = true)
    (h63 : n + m ≤ maxLen) (hbytes : (n + m) * bytes ≤ 140737488355328) (hbase : base ≤ w.heap.size)
    (hK : ∀ v' w', w'.ownsRow base e size v' (n + m) (xs ++ news) → w.grownBy w' v.ownBlock → wpList P ops Q rest (a.put o.dst v') w') :
    wpList P ops Q (o :: rest) a w := by
  refine wpList_plain hg fun K hK' => ?_
  obtain ⟨A', c', he, hnone, hsome⟩ := Rd.form hrd
  injection he with he1 he2 he3
  subst he1 he3
  cases A with
  | none =>
    obtain ⟨rfl, rfl⟩ := hnone rfl
    have hnews : news = [] := List.eq_nil_of_length_eq_zero (by simpa using hrd.1)
    subst hnews
    have hrun := run_append_owned_none (P := P) w base t o.type e i size ht hi v n xs hown
    unfold Oper.wp
    simp [execOp, hop, resolve, invoke, builtin, hs, hx, hrun, Result.andThen]
    exact hK' _ _ (hK _ _ (by simpa using hown) (World.grownBy.refl _ _))
  | some ad =>
    obtain ⟨v', w', hrun, h2, h3, _⟩ := run_append_own_at (P := P) w base t o.type e i z size bytes ht hi hz hsize hby hzs hsz v n xs hown ad m c news hrd.1 (hsome ad rfl).1 h1 h63 hbytes hbase
    unfold Oper.wp
    simp [execOp, hop, resolve, invoke, builtin, hs, hx, hrun, Result.andThen]
    exact hK' _ _ (hK v' w' h2 h3)
theorem zeros_u8 (m : Nat) : (Builtin.zeroCells #[Value.int .u8 0] m).toList = (List.replicate m (0 : Int)).map (.int .u8) := by
  rw [List.map_replicate]
  apply List.ext_getElem
  · simp [Builtin.zeroCells, Value.cells]
  · intro i h1 h2
    simp [Builtin.zeroCells, Value.cells, Nat.mod_one]
theorem zeros_one (m : Nat) : ∀ u ∈ (Builtin.zeroCells (Value.int .u8 0).cells m).toList, u.oneCell' = true := by
  rw [show (Value.int .u8 0).cells = #[Value.int .u8 0] from rfl, zeros_u8]; intro u hu
  obtain ⟨x, _, rfl⟩ := List.mem_map.1 hu; rfl
theorem fillL_le {b : List Int} {n : Nat} (h : n ≤ b.length) : fillL b n = b := by unfold fillL; rw [Nat.sub_eq_zero_of_le h]; simp
theorem fill_calls (v : Value) (bs : List Int) (s : Int) (w : World) (hb : BS w v bs) (h0 : 0 ≤ s) (h1 : s ≤ 100000) :
    Calls Tryz.prog 157 #[v, .int .i64 s] w fun e w' => ∃ v', e = .returned v' ∧ BS w' v' (fillL bs s.toNat) ∧ Below w.heap.size w w' := by
  obtain ⟨i0, hi, hzz⟩ := Option.map_eq_some_iff.1 info_bytes
  simp only [Prod.mk.injEq] at hzz
  obtain ⟨hz0, hz1, hz2⟩ := hzz
  obtain ⟨A, c, rfl, hA, hr⟩ := Rd.form hb
  have HV := Aside0.mk hb
  obtain ⟨n, hn⟩ : ∃ n, bs.length = n := ⟨_, rfl⟩
  have HN := Aside0.mk hn
  have hn6 : n ≤ 1000000 := by rw [← hn]; exact hb.2.1
  rw [hn]
  clear hb hA hr hn
  have hcl := fun W h => clone_bytes (.slice A n c) n (bs.map (.int .u8)) W h (fun u hu => by obtain ⟨x, _, rfl⟩ := List.mem_map.1 hu; rfl)
  have HCL := Aside0.mk hcl
  clear hcl
  by_cases hle : s ≤ n
  · have HF := Aside0.mk (show fillL bs s.toNat = bs from fillL_le (by have := HN.out; omega))
    clear hi hz0 hz1 hz2
    go_enter Tryz.func157, Tryz.ntmps157
    go_wp2_with fail
    refine (HCL.out _ (by have h := HV.out; unfold BS at h; rw [HN.out] at h; exact h)).mono ?_
    rintro e w1 ⟨v1, rfl, ho, hB⟩
    have HO := Aside0.mk ho
    have HB := Aside0.mk hB
    clear ho hB
    go_wp2_with fail
    go_ret
    exact ⟨v1, by simp, by rw [HF.out]; unfold BS; rw [HN.out]; exact Rd.of_own HO.out hn6, HB.out⟩
  · obtain ⟨m, hm⟩ : ∃ m : Nat, s - n = m := ⟨(s - n).toNat, by omega⟩
    have HM := Aside0.mk hm
    have hmb : n + m ≤ 100000 := by omega
    clear hm
    go_enter Tryz.func157, Tryz.ntmps157
    go_wp2_with fail
    refine (HCL.out _ (by have h := HV.out; unfold BS at h; rw [HN.out] at h; exact h)).mono ?_
    rintro e w1 ⟨v1, rfl, ho, hB⟩
    have HO := Aside0.mk ho
    have HB := Aside0.mk hB
    clear ho hB
    go_wp2_with (at_builtin; refine wpList_append_zeros _ (by rfl) _ _ 93 3 (by rfl) w.heap.size 5 i0 (.int .u8 0) 1 1 Tryz.underlying93 Tryz.underlying3 hi hz0 hz1 hz2 rfl (by decide) (by decide) v1 n (bs.map (.int .u8)) (by rfl) HO.out .i64 m (s - n) (by rfl) HM.out (zeros_one m) (by omega) HB.out.size ?_)
    intro v2 w2 hown hgr
    have HO2 := Aside0.mk hown
    have HB2 := Aside0.mk (show Below w.heap.size w w2 from HB.out.grown hgr HB.out.size (fun k hk => (ow_block HO.out hk).1))
    clear hown hgr hi hz0 hz1 hz2
    obtain ⟨A2, c2, rfl, _⟩ := ow_slice HO2.out
    go_wp2_with fail
    go_ret
    refine ⟨.slice A2 (n + m) c2, by simp, ?_, HB2.out⟩
    have e : fillL bs s.toNat = bs ++ List.replicate m 0 := by unfold fillL; rw [HN.out, show s.toNat - n = m from by have := HM.out; omega]
    have := HO2.out
    rw [zeros_u8, ← List.map_append] at this
    unfold BS
    rw [e, List.length_append, HN.out, List.length_replicate]
    exact Rd.of_own this (by omega)
theorem grow_nil (n : Int) (w : World) (h0 : 0 ≤ n) (h1 : n ≤ 100000) :
    Calls Tryz.prog 238 #[.slice none 0 0, .int .i64 n] w fun e w' => ∃ v', e = .returned v' ∧ w'.ownsRow w.heap.size 5 1 v' 0 [] ∧ Below w.heap.size w w' := by
  obtain ⟨i0, hi, hzz⟩ := Option.map_eq_some_iff.1 info_bytes
  simp only [Prod.mk.injEq] at hzz
  obtain ⟨hz0, hz1, hz2⟩ := hzz
  by_cases hle : n = 0
  · subst hle
    go_enter Tryz.func238, Tryz.ntmps238
    go_wp2_with fail
    go_ret
    exact ⟨_, rfl, World.ownsRow_nil _ _ _ _, Below.refl _ _⟩
  · have hn1 : 0 < n := by omega
    have hnl : ¬ n < 0 := by omega
    obtain ⟨m, hm⟩ : ∃ m : Nat, n = m := ⟨n.toNat, by omega⟩
    have HM := Aside0.mk hm
    have hmb : m ≤ 100000 := by omega
    have hm1 : 0 < m := by omega
    clear hm hle
    go_enter Tryz.func238, Tryz.ntmps238
    go_wp2_with (at_builtin; refine wpList_append_zeros _ (by rfl) _ _ 93 3 (by rfl) w.heap.size 5 i0 (.int .u8 0) 1 1 Tryz.underlying93 Tryz.underlying3 hi hz0 hz1 hz2 rfl (by decide) (by decide) (.slice none 0 0) 0 [] (by rfl) (World.ownsRow_nil _ _ _ _) .i64 m n (by rfl) HM.out (zeros_one m) (by omega) (Nat.le_refl _) ?_)
    intro v2 w2 hown hgr
    obtain ⟨g, cap, rfl, hbg, hgl⟩ := hown.form (by omega)
    have HO2 := Aside0.mk hown
    have HB2 := Aside0.mk (show Below w.heap.size w w2 from (Below.refl _ _).grown hgr (Nat.le_refl _) (fun k hk => by cases hk))
    clear hown hgr hi hz0 hz1 hz2
    go_wp2_with fail
    go_ret
    refine ⟨.slice (some ⟨g, 0, none⟩) 0 cap, by simp, ?_, HB2.out⟩
    obtain ⟨o1, o2⟩ := HO2.out
    rcases o2 with ⟨o2, _⟩ | ⟨g', cap', cur, hv, hg, hh, hnc, hcm, hsz, htk⟩
    · cases o2
    · simp at hv
      obtain ⟨rfl, rfl⟩ := hv
      exact ⟨rfl, .inr ⟨g, cap, cur, rfl, hg, hh, by omega, hcm, hsz, by simp⟩⟩
def BSs (w : World) (v : Value) (n : Nat) (bss : List (List Int)) : Prop :=
  bss.length = n ∧ ∃ vs, Rd w 93 1 v n vs ∧ ∀ (i : Nat) (b : List Int), bss[i]? = some b → ∃ x, vs[i]? = some x ∧ BS w x b
theorem BSs.below {w w' : World} {v : Value} {n : Nat} {bss : List (List Int)} (h : BSs w v n bss) (hb : Below w.heap.size w w') : BSs w' v n bss := by
  obtain ⟨h1, vs, h2, h3⟩ := h
  exact ⟨h1, vs, h2.below hb, fun i b hi => by obtain ⟨x, hx, hx2⟩ := h3 i b hi; exact ⟨x, hx, hx2.below hb⟩⟩
theorem flat_take (bss : List (List Int)) (i : Nat) (b : List Int) (h : bss[i]? = some b) : (bss.take (i + 1)).flatten = (bss.take i).flatten ++ b := by
  obtain ⟨hl, he⟩ := List.getElem?_eq_some_iff.1 h
  rw [List.take_succ_eq_append_getElem hl, List.flatten_append, he]
  simp
theorem flat_le (bss : List (List Int)) (i : Nat) : (bss.take i).flatten.length ≤ bss.flatten.length := by
  conv => rhs; rw [← List.take_append_drop i bss]
  rw [List.flatten_append, List.length_append]; omega
theorem concat_calls (v : Value) (n : Nat) (bss : List (List Int)) (w : World) (hb : BSs w v n bss) (hB : bss.flatten.length ≤ 90000) (hn : n ≤ 1000) :
    Calls Tryz.prog 218 #[v] w fun e w' => ∃ v', e = .returned v' ∧ BS w' v' bss.flatten ∧ Below w.heap.size w w' := by
  obtain ⟨i0, hi, hzz⟩ := Option.map_eq_some_iff.1 info_bytes
  simp only [Prod.mk.injEq] at hzz
  obtain ⟨hz0, hz1, hz2⟩ := hzz
  have HV := Aside0.mk hb
  obtain ⟨hlen, vs, hrd, hel⟩ := hb
  obtain ⟨A, c, rfl, hA, hr⟩ := Rd.form hrd
  have HL := Aside0.mk hlen
  have HT := Aside0.mk hB
  have HI0 := Aside0.mk (And.intro hi (And.intro hz0 (And.intro hz1 hz2)))
  clear hlen hrd hel hA hr hB hi hz0 hz1 hz2
  -- what is read of one of them
  have HE := Aside0.mk (show ∀ (W : World) (i : Nat), BSs W (.slice A n c) n bss → i < n → ∃ ad A1 b c1, A = some ad ∧ bss[i]? = some b ∧ W.cell? (ad.add i) = some (.slice A1 b.length c1) ∧ BS W (.slice A1 b.length c1) b from fun W i h hi => by
    obtain ⟨hl, vs, hrd, hel⟩ := h
    obtain ⟨b, hbb⟩ : ∃ b, bss[i]? = some b := ⟨_, List.getElem?_eq_getElem (by omega)⟩
    obtain ⟨x, hx, hxb⟩ := hel i b hbb
    obtain ⟨A1, c1, rfl, _, _⟩ := Rd.form hxb
    obtain ⟨A', c', he, hA', hr'⟩ := Rd.form hrd
    injection he with he1 he2 he3
    subst he1 he3
    cases A with
    | none => have := (hA' rfl).1; omega
    | some ad => exact ⟨ad, A1, b, c1, rfl, hbb, (hr' ad rfl).1 i _ hx, hxb⟩)
  go_enter Tryz.func218, Tryz.ntmps218
  go_wp2_with fail
  go_loopg [3, 11] (n + 1) (fun kq v3 v11 w' => ∃ (i j : Int), v3 = .int .i64 j ∧ v11 = .int .i64 i ∧ Aside0 (0 ≤ i ∧ i ≤ n ∧ (kq : Int) = n + 1 - i ∧ j = (((bss.take i.toNat).flatten.length : Nat) : Int)) ∧ w' = w)
  case atStart => exact ⟨0, 0, rfl, rfl, ⟨by omega, by omega, by omega, by simp⟩, rfl⟩
  case round =>
    obtain ⟨i, j, rfl, rfl, HI, rfl⟩ := hrel
    have hi0 : 0 ≤ i := HI.out.1
    have hj0 : 0 ≤ j := by have := HI.out; omega
    have hj1 : j ≤ 90000 := by have := HI.out; have := flat_le bss i.toNat; have := HT.out; omega
    by_cases hlt : i < n
    · obtain ⟨ad, A1, b, c1, rfl, hbb, hcell, hbs⟩ := HE.out wr i.toNat HV.out (by omega)
      have HBB := Aside0.mk hbb
      have hjb : j + (b.length : Int) ≤ 90000 := by
        have := HI.out.2.2.2
        have h2 := flat_take bss i.toNat b hbb
        have h3 := flat_le bss (i.toNat + 1)
        rw [h2, List.length_append] at h3
        have := HT.out; omega
      have hjn : ¬ j + (b.length : Int) < 0 := by omega
      clear hbb hbs
      go_wp2_with fail
      go_roundg (gk - 1)
      case measure => have := HI.out; omega
      case rel => exact ⟨i + 1, _, rfl, rfl, ⟨by omega, by omega, by have := HI.out; omega, by
        rw [show (i + 1).toNat = i.toNat + 1 from by omega, flat_take _ _ _ HBB.out, List.length_append]
        have := HI.out; omega⟩, rfl⟩
    · have HJ := Aside0.mk (show j = ((bss.flatten.length : Nat) : Int) by
        have := HI.out.2.2.2
        rw [List.take_of_length_le (by have := HL.out; omega)] at this
        exact this)
      go_wp2_with fail
      refine (grow_nil j _ hj0 (by omega)).mono ?_
      rintro e w1 ⟨v1, rfl, ho, hB⟩
      have HO := Aside0.mk ho
      have HB := Aside0.mk hB
      clear ho hB hlt
      obtain ⟨wo, rfl⟩ : ∃ wo : World, wo = wr := ⟨_, rfl⟩
      go_wp2_with fail
      go_loopg [6, 27] (n + 1) (fun kq v6 v27 w' => ∃ (i : Int) (sl : Value), v6 = sl ∧ v27 = .int .i64 i ∧ Aside0 (0 ≤ i ∧ i ≤ n ∧ (kq : Int) = n + 1 - i) ∧ Aside0 (w'.ownsRow wo.heap.size 5 1 sl (bss.take i.toNat).flatten.length ((bss.take i.toNat).flatten.map (.int .u8))) ∧ Aside0 (Below wo.heap.size wo w'))
      case atStart => exact ⟨0, v1, rfl, rfl, ⟨by omega, by omega, by omega⟩, ⟨by simpa using HO.out⟩, HB⟩
      case round =>
        obtain ⟨i2, sl, rfl, rfl, HI2, HO2, HB2⟩ := hrel
        have hi20 : 0 ≤ i2 := HI2.out.1
        by_cases hlt2 : i2 < n
        · obtain ⟨ad, A1, b, c1, rfl, hbb, hcell, hbs⟩ := HE.out _ i2.toNat (HV.out.below HB2.out) (by omega)
          have HBB := Aside0.mk hbb
          have HBS := Aside0.mk hbs
          have hjb : (bss.take i2.toNat).flatten.length + b.length ≤ 90000 := by
            have h2 := flat_take bss i2.toNat b hbb
            have h3 := flat_le bss (i2.toNat + 1)
            rw [h2, List.length_append] at h3
            have := HT.out; omega
          obtain ⟨hi, hz0, hz1, hz2⟩ := HI0.out
          obtain ⟨A1', c1', he1, hnone, hsome⟩ := Rd.form hbs
          obtain ⟨fl, hfl⟩ : ∃ fl : List Int, (bss.take i2.toNat).flatten = fl := ⟨_, rfl⟩
          have HFL := Aside0.mk hfl
          have ho2 := HO2.out
          rw [hfl] at ho2 hjb
          replace HO2 := Aside0.mk ho2
          clear hbb hbs he1 hnone hsome hfl ho2
          go_wp2_with (at_builtin; (refine wpList_append_any_rd _ (by rfl) _ _ 93 (by rfl) wo.heap.size 5 i0 (.int .u8 0) 1 1 Tryz.underlying93 hi hz0 hz1 hz2 rfl (by decide) _ fl.length (fl.map (.int .u8)) (by rfl) HO2.out A1 b.length c1 (b.map (.int .u8)) (by rfl) HBS.out (by intro u hu; obtain ⟨x, _, rfl⟩ := List.mem_map.1 hu; rfl) (by unfold maxLen; omega) (by omega) HB2.out.size ?_))
          intro v3 w3 hown hgr
          have HO3 := Aside0.mk hown
          have HB3 := Aside0.mk (show Below wo.heap.size wo w3 from HB2.out.grown hgr HB2.out.size (fun k hk => (ow_block HO2.out hk).1))
          clear hown hgr hi hz0 hz1 hz2
          go_wp2_with fail
          go_roundg (gk - 1)
          case measure => have := HI2.out; omega
          case rel =>
            refine ⟨i2 + 1, _, rfl, rfl, ⟨by omega, by omega, by have := HI2.out; omega⟩, ⟨?_⟩, HB3⟩
            rw [show (i2 + 1).toNat = i2.toNat + 1 from by omega, flat_take _ _ _ HBB.out, HFL.out, List.length_append, List.map_append]
            exact HO3.out
        · have HE2 := Aside0.mk (show bss.take i2.toNat = bss by rw [List.take_of_length_le (by have := HL.out; omega)])
          obtain ⟨A3, c3, rfl, _⟩ := ow_slice HO2.out
          go_wp2_with fail
          go_ret
          refine ⟨.slice A3 (bss.take i2.toNat).flatten.length c3, by simp, ?_, HB2.out⟩
          have h := HO2.out
          rw [HE2.out] at h ⊢
          exact Rd.of_own h (by have := HT.out; omega)
end Go.Proofs.YtaplpeoikebedaaGreatDoor.Fill
