/- Joined texts: RecC, RecB. No condition but what each says. -/
import Derived.Test.YtaplpeoikebedaaGreatDoorY7
set_option maxHeartbeats 8000000
set_option maxRecDepth 100000
set_option linter.unusedVariables false
set_option linter.unusedSimpArgs false
namespace Go.Proofs.YtaplpeoikebedaaGreatDoor.RecC
open Go.RowKit YtaplpeoikebedaaGreatDoorW.PrintWords YtaplpeoikebedaaGreatDoorW.PrintLast YtaplpeoikebedaaGreatDoorW.PrintMore
open See Mem Clone Go.Proofs.YtaplpeoikebedaaGreatDoor.Cell Page PageB PageR Disk RecD Rec
attribute [local go_sem] max2_imax min2_imin max_two min_two
theorem tm_t (r:RecV)(h:inB r.kind 1 6=true):txnMax r=60000:=by
  unfold inB at h;simp at h
  unfold txnMax;rw[if_pos (.inl h)]
theorem tm_f (r:RecV)(h:inB r.kind 1 6=false):txnMax r=if (r.kind == 8)=true then 60000 else 0:=by
  have h1 : ¬(1≤r.kind∧r.kind≤6):=by
    unfold inB at h;simp at h;omega
  unfold txnMax
  by_cases h8:r.kind=8
  · simp[h8]
  · rw[if_neg (by
      rintro (h | h)
      · exact h1 h
      · exact h8 h)]
    simp[h8]
theorem pm_t (r:RecV)(h:r.kind=2∨r.kind=3∨r.kind=9):pageMax r=32:=by unfold pageMax;rw[if_pos h]
theorem pm_f (r:RecV)(h1:r.kind≠2)(h2:r.kind≠3)(h3:r.kind≠9):pageMax r=0:=by
  unfold pageMax;rw[if_neg (by
    rintro (h | h | h)
    · exact h1 h
    · exact h2 h
    · exact h3 h)]
theorem recOk_of {r:RecV}{b1 b2 b3 b4 b5 b6 b7:Bool}(h1:inB r.kind 1 10=b1)(h2:inB r.txn (imin (txnMax r) 1) (txnMax r)=b2)(h3:inB r.page (imin (pageMax r) 1) (pageMax r)=b3)(h4:prevOk r=b4)(h5:nextOk r=b5)(h6:rkeyOk r=b6)(h7:valsOk r=b7) :
    recOk r=(b1 && b2 && b3 && b4 && b5 && b6 && b7):=by
  unfold recOk
  rw[←imin_eq,←imin_eq,h1,h2,h3,h4,h5,h6,h7]
theorem check_calls (a:Nat→Addr)(r:RecV)(w:World)(hs:Sents w a) :
    Calls Tryz.prog 115 #[recV r] w fun e w'=>e = .returned (errv a (recE r))∧Below w.heap.size w w':=by
  obtain⟨b1,h1⟩ : ∃b,inB r.kind 1 10=b:=⟨_,rfl⟩
  obtain⟨b2,h2⟩ : ∃b,inB r.txn (imin (txnMax r) 1) (txnMax r)=b:=⟨_,rfl⟩
  obtain⟨b3,h3⟩ : ∃b,inB r.page (imin (pageMax r) 1) (pageMax r)=b:=⟨_,rfl⟩
  obtain⟨b4,h4⟩ : ∃b,prevOk r=b:=⟨_,rfl⟩
  obtain⟨b5,h5⟩ : ∃b,nextOk r=b:=⟨_,rfl⟩
  obtain⟨b6,h6⟩ : ∃b,rkeyOk r=b:=⟨_,rfl⟩
  obtain⟨b7,h7⟩ : ∃b,valsOk r=b:=⟨_,rfl⟩
  have HR:=Aside0.mk (recOk_of h1 h2 h3 h4 h5 h6 h7)
  obtain⟨tm,htm⟩ : ∃x,txnMax r=x:=⟨_,rfl⟩
  obtain⟨pm,hpm⟩ : ∃x,pageMax r=x:=⟨_,rfl⟩
  rw[htm] at h2
  rw[hpm] at h3
  have H1:=Aside0.mk h1
  have H2:=Aside0.mk h2
  have H3:=Aside0.mk h3
  have H4:=Aside0.mk h4
  have H5:=Aside0.mk h5
  have H6:=Aside0.mk h6
  have H7:=Aside0.mk h7
  have HT:=Aside0.mk htm
  have HP:=Aside0.mk hpm
  have HS:=Aside0.mk hs
  have hg1:w.cell? ⟨6,0,none⟩=some (.iface 333 (.pointer (some (a 1)))):=hs.cell 1 (by decide)
  have hlt1:6<w.heap.size:=World.block_lt_of_cell? _ _ hg1
  clear h1 h2 h3 h4 h5 h6 h7 htm hpm hs
  obtain⟨k,t,pg,pv,nx,ky,hd,hh,ol,nw⟩:=r
  obtain⟨c1,hc1⟩ : ∃b,inB k 1 6=b:=⟨_,rfl⟩
  have HC1:=Aside0.mk hc1
  clear hc1
  go_enter Tryz.func115,Tryz.ntmps115
  go_upto_region 2 with fail
  go_cut [12] (fun s12 wx => ∃bt:Bool,s12 = .bool bt∧Aside0 ((if bt then (60000:Int) else 0)=tm)∧wx=(w.alloc (.cells #[.int .i64 k,.int .i64 t,.int .i64 pg,.int .i64 pv,.int .i64 nx,.int .i64 ky,.bool hd,.bool hh,.int .i64 ol,.int .i64 nw] 46)))
  case first=>
    go_wp2_with fail
    refine (in_calls _ _ _ _ HC1.out _).mono ?_
    rintro e w' ⟨rfl,rfl⟩
    cases c1 with
    | true=>
      go_wp2_with fail
      go_meet
      exact⟨true,rfl,⟨by rw[←HT.out,tm_t _ HC1.out];rfl⟩,rfl⟩
    | false=>
      go_wp2_with fail
      go_meet
      exact⟨_,rfl,⟨by rw[←HT.out,tm_f _ HC1.out]⟩,rfl⟩
  case rest=>
  obtain⟨bt,rfl,HBT,rfl⟩:=hcut
  go_upto_if 12 with fail
  go_cut [3] (fun s3 wx=>s3 = .int .i64 tm∧wx=(w.alloc (.cells #[.int .i64 k,.int .i64 t,.int .i64 pg,.int .i64 pv,.int .i64 nx,.int .i64 ky,.bool hd,.bool hh,.int .i64 ol,.int .i64 nw] 46)))
  case first=>
    have:=HBT.out
    cases bt with
    | true=>subst this;go_wp2_with fail;go_meet;exact⟨rfl,rfl⟩
    | false=>subst this;go_wp2_with fail;go_meet;exact⟨rfl,rfl⟩
  case rest=>
  obtain⟨rfl,rfl⟩:=hcut
  go_upto_region 4 with fail
  go_cut [25] (fun s25 wx => ∃bt:Bool,s25 = .bool bt∧Aside0 ((if bt then (32:Int) else 0)=pm)∧wx=(w.alloc (.cells #[.int .i64 k,.int .i64 t,.int .i64 pg,.int .i64 pv,.int .i64 nx,.int .i64 ky,.bool hd,.bool hh,.int .i64 ol,.int .i64 nw] 46)))
  case first=>
    rcases (show k=2∨k=3∨k=9∨(k≠2∧k≠3∧k≠9) by omega) with h | h | h | ⟨h1,h2,h3⟩
    · subst h
      go_wp2_with fail
      go_meet
      exact⟨true,rfl,⟨by rw[←HP.out,pm_t _ (.inl rfl)];rfl⟩,rfl⟩
    · subst h
      go_wp2_with fail
      go_meet
      exact⟨true,rfl,⟨by rw[←HP.out,pm_t _ (.inr (.inl rfl))];rfl⟩,rfl⟩
    · subst h
      go_wp2_with fail
      go_meet
      exact⟨true,rfl,⟨by rw[←HP.out,pm_t _ (.inr (.inr rfl))];rfl⟩,rfl⟩
    · have q1:(k == 2)=false:=by simp[h1]
      have q2:(k == 3)=false:=by simp[h2]
      have q3:(k == 9)=false:=by simp[h3]
      have HH:=Aside0.mk (And.intro h1 (And.intro h2 h3))
      clear h1 h2 h3
      go_wp2_with fail
      go_meet
      exact⟨false,rfl,⟨by rw[←HP.out,pm_f _ HH.out.1 HH.out.2.1 HH.out.2.2];rfl⟩,rfl⟩
  case rest=>
  obtain⟨bp,rfl,HBP,rfl⟩:=hcut
  go_upto_if 25 with fail
  go_cut [4] (fun s4 wx=>s4 = .int .i64 pm∧wx=(w.alloc (.cells #[.int .i64 k,.int .i64 t,.int .i64 pg,.int .i64 pv,.int .i64 nx,.int .i64 ky,.bool hd,.bool hh,.int .i64 ol,.int .i64 nw] 46)))
  case first=>
    have:=HBP.out
    cases bp with
    | true=>subst this;go_wp2_with fail;go_meet;exact⟨rfl,rfl⟩
    | false=>subst this;go_wp2_with fail;go_meet;exact⟨rfl,rfl⟩
  case rest=>
  obtain⟨rfl,rfl⟩:=hcut
  have HB:=Aside0.mk (below_alloc (Below.refl w.heap.size w) (.cells #[.int .i64 k,.int .i64 t,.int .i64 pg,.int .i64 pv,.int .i64 nx,.int .i64 ky,.bool hd,.bool hh,.int .i64 ol,.int .i64 nw] 46))
  have HBAD:=Aside0.mk (show (b1 && b2 && b3 && b4 && b5 && b6 && b7)=false→errv a (recE ⟨k,t,pg,pv,nx,ky,hd,hh,ol,nw⟩) = .iface 333 (.pointer (some (a 1))) from fun h=>by
    unfold recE;rw[HR.out,h];rfl)
  have HGOOD:=Aside0.mk (show (b1 && b2 && b3 && b4 && b5 && b6 && b7)=true→errv a (recE ⟨k,t,pg,pv,nx,ky,hd,hh,ol,nw⟩) = .nilIface from fun h=>by
    unfold recE;rw[HR.out,h];rfl)
  go_wp2_with fail
  refine (in_calls _ _ _ _ H1.out _).mono ?_
  rintro e w' ⟨rfl,rfl⟩
  cases b1 with
  | false=>
    go_wp2_with fail
    go_ret
    exact⟨by simp[HBAD.out (by simp)],HB.out⟩
  | true=>
  go_wp2_with fail
  refine (in_calls _ _ _ _ H2.out _).mono ?_
  rintro e w' ⟨rfl,rfl⟩
  cases b2 with
  | false=>
    go_wp2_with fail
    go_ret
    exact⟨by simp[HBAD.out (by simp)],HB.out⟩
  | true=>
  go_wp2_with fail
  refine (in_calls _ _ _ _ H3.out _).mono ?_
  rintro e w' ⟨rfl,rfl⟩
  cases b3 with
  | false=>
    go_wp2_with fail
    go_ret
    exact⟨by simp[HBAD.out (by simp)],HB.out⟩
  | true=>
  go_wp2_with fail
  refine (prev_calls ⟨k,t,pg,pv,nx,ky,hd,hh,ol,nw⟩ _ H4.out _).mono ?_
  rintro e w3 ⟨rfl,hb⟩
  have hc3_0:w3.cell? ⟨w.heap.size,0,none⟩=some (.int .i64 k):=(hb.cell (p:=⟨w.heap.size,0,none⟩) (by simp)).trans (by simp)
  have hc3_1:w3.cell? ⟨w.heap.size,1,none⟩=some (.int .i64 t):=(hb.cell (p:=⟨w.heap.size,1,none⟩) (by simp)).trans (by simp)
  have hc3_2:w3.cell? ⟨w.heap.size,2,none⟩=some (.int .i64 pg):=(hb.cell (p:=⟨w.heap.size,2,none⟩) (by simp)).trans (by simp)
  have hc3_3:w3.cell? ⟨w.heap.size,3,none⟩=some (.int .i64 pv):=(hb.cell (p:=⟨w.heap.size,3,none⟩) (by simp)).trans (by simp)
  have hc3_4:w3.cell? ⟨w.heap.size,4,none⟩=some (.int .i64 nx):=(hb.cell (p:=⟨w.heap.size,4,none⟩) (by simp)).trans (by simp)
  have hc3_5:w3.cell? ⟨w.heap.size,5,none⟩=some (.int .i64 ky):=(hb.cell (p:=⟨w.heap.size,5,none⟩) (by simp)).trans (by simp)
  have hc3_6:w3.cell? ⟨w.heap.size,6,none⟩=some (.bool hd):=(hb.cell (p:=⟨w.heap.size,6,none⟩) (by simp)).trans (by simp)
  have hc3_7:w3.cell? ⟨w.heap.size,7,none⟩=some (.bool hh):=(hb.cell (p:=⟨w.heap.size,7,none⟩) (by simp)).trans (by simp)
  have hc3_8:w3.cell? ⟨w.heap.size,8,none⟩=some (.int .i64 ol):=(hb.cell (p:=⟨w.heap.size,8,none⟩) (by simp)).trans (by simp)
  have hc3_9:w3.cell? ⟨w.heap.size,9,none⟩=some (.int .i64 nw):=(hb.cell (p:=⟨w.heap.size,9,none⟩) (by simp)).trans (by simp)
  have hz3:w.heap.size<w3.heap.size:=by have:=hb.size;simp at this;omega
  have hg13:w3.cell? ⟨6,0,none⟩=some (.iface 333 (.pointer (some (a 1)))):=(hb.cell (p:=⟨6,0,none⟩) (by simp<;>omega)).trans (by rw[World.cell?_alloc_lt _ _ _ (by exact hlt1)];exact hg1)
  replace HB:=Aside0.mk (below_step HB.out hb)
  clear hb
  cases b4 with
  | false=>
    go_wp2_with fail
    go_ret
    exact⟨by simp[HBAD.out (by simp)],HB.out⟩
  | true=>
  go_wp2_with fail
  refine (next_calls ⟨k,t,pg,pv,nx,ky,hd,hh,ol,nw⟩ _ H5.out _).mono ?_
  rintro e w4 ⟨rfl,hb⟩
  have hc4_0:w4.cell? ⟨w.heap.size,0,none⟩=some (.int .i64 k):=(hb.cell (p:=⟨w.heap.size,0,none⟩) (by exact hz3)).trans (by exact hc3_0)
  have hc4_1:w4.cell? ⟨w.heap.size,1,none⟩=some (.int .i64 t):=(hb.cell (p:=⟨w.heap.size,1,none⟩) (by exact hz3)).trans (by exact hc3_1)
  have hc4_2:w4.cell? ⟨w.heap.size,2,none⟩=some (.int .i64 pg):=(hb.cell (p:=⟨w.heap.size,2,none⟩) (by exact hz3)).trans (by exact hc3_2)
  have hc4_3:w4.cell? ⟨w.heap.size,3,none⟩=some (.int .i64 pv):=(hb.cell (p:=⟨w.heap.size,3,none⟩) (by exact hz3)).trans (by exact hc3_3)
  have hc4_4:w4.cell? ⟨w.heap.size,4,none⟩=some (.int .i64 nx):=(hb.cell (p:=⟨w.heap.size,4,none⟩) (by exact hz3)).trans (by exact hc3_4)
  have hc4_5:w4.cell? ⟨w.heap.size,5,none⟩=some (.int .i64 ky):=(hb.cell (p:=⟨w.heap.size,5,none⟩) (by exact hz3)).trans (by exact hc3_5)
  have hc4_6:w4.cell? ⟨w.heap.size,6,none⟩=some (.bool hd):=(hb.cell (p:=⟨w.heap.size,6,none⟩) (by exact hz3)).trans (by exact hc3_6)
  have hc4_7:w4.cell? ⟨w.heap.size,7,none⟩=some (.bool hh):=(hb.cell (p:=⟨w.heap.size,7,none⟩) (by exact hz3)).trans (by exact hc3_7)
  have hc4_8:w4.cell? ⟨w.heap.size,8,none⟩=some (.int .i64 ol):=(hb.cell (p:=⟨w.heap.size,8,none⟩) (by exact hz3)).trans (by exact hc3_8)
  have hc4_9:w4.cell? ⟨w.heap.size,9,none⟩=some (.int .i64 nw):=(hb.cell (p:=⟨w.heap.size,9,none⟩) (by exact hz3)).trans (by exact hc3_9)
  have hz4:w.heap.size<w4.heap.size:=by have:=hb.size;omega
  have hg14:w4.cell? ⟨6,0,none⟩=some (.iface 333 (.pointer (some (a 1)))):=(hb.cell (p:=⟨6,0,none⟩) (by show 6<_;omega)).trans (by exact hg13)
  replace HB:=Aside0.mk (below_step HB.out hb)
  clear hc3_0 hc3_1 hc3_2 hc3_3 hc3_4 hc3_5 hc3_6 hc3_7 hc3_8 hc3_9 hg13
  clear hb
  cases b5 with
  | false=>
    go_wp2_with fail
    go_ret
    exact⟨by simp[HBAD.out (by simp)],HB.out⟩
  | true=>
  go_wp2_with fail
  refine (key_calls ⟨k,t,pg,pv,nx,ky,hd,hh,ol,nw⟩ _ H6.out _).mono ?_
  rintro e w5 ⟨rfl,hb⟩
  have hc5_0:w5.cell? ⟨w.heap.size,0,none⟩=some (.int .i64 k):=(hb.cell (p:=⟨w.heap.size,0,none⟩) (by exact hz4)).trans (by exact hc4_0)
  have hc5_1:w5.cell? ⟨w.heap.size,1,none⟩=some (.int .i64 t):=(hb.cell (p:=⟨w.heap.size,1,none⟩) (by exact hz4)).trans (by exact hc4_1)
  have hc5_2:w5.cell? ⟨w.heap.size,2,none⟩=some (.int .i64 pg):=(hb.cell (p:=⟨w.heap.size,2,none⟩) (by exact hz4)).trans (by exact hc4_2)
  have hc5_3:w5.cell? ⟨w.heap.size,3,none⟩=some (.int .i64 pv):=(hb.cell (p:=⟨w.heap.size,3,none⟩) (by exact hz4)).trans (by exact hc4_3)
  have hc5_4:w5.cell? ⟨w.heap.size,4,none⟩=some (.int .i64 nx):=(hb.cell (p:=⟨w.heap.size,4,none⟩) (by exact hz4)).trans (by exact hc4_4)
  have hc5_5:w5.cell? ⟨w.heap.size,5,none⟩=some (.int .i64 ky):=(hb.cell (p:=⟨w.heap.size,5,none⟩) (by exact hz4)).trans (by exact hc4_5)
  have hc5_6:w5.cell? ⟨w.heap.size,6,none⟩=some (.bool hd):=(hb.cell (p:=⟨w.heap.size,6,none⟩) (by exact hz4)).trans (by exact hc4_6)
  have hc5_7:w5.cell? ⟨w.heap.size,7,none⟩=some (.bool hh):=(hb.cell (p:=⟨w.heap.size,7,none⟩) (by exact hz4)).trans (by exact hc4_7)
  have hc5_8:w5.cell? ⟨w.heap.size,8,none⟩=some (.int .i64 ol):=(hb.cell (p:=⟨w.heap.size,8,none⟩) (by exact hz4)).trans (by exact hc4_8)
  have hc5_9:w5.cell? ⟨w.heap.size,9,none⟩=some (.int .i64 nw):=(hb.cell (p:=⟨w.heap.size,9,none⟩) (by exact hz4)).trans (by exact hc4_9)
  have hz5:w.heap.size<w5.heap.size:=by have:=hb.size;omega
  have hg15:w5.cell? ⟨6,0,none⟩=some (.iface 333 (.pointer (some (a 1)))):=(hb.cell (p:=⟨6,0,none⟩) (by show 6<_;omega)).trans (by exact hg14)
  replace HB:=Aside0.mk (below_step HB.out hb)
  clear hc4_0 hc4_1 hc4_2 hc4_3 hc4_4 hc4_5 hc4_6 hc4_7 hc4_8 hc4_9 hg14
  clear hb
  cases b6 with
  | false=>
    go_wp2_with fail
    go_ret
    exact⟨by simp[HBAD.out (by simp)],HB.out⟩
  | true=>
  go_wp2_with fail
  refine (values_calls ⟨k,t,pg,pv,nx,ky,hd,hh,ol,nw⟩ _ H7.out _).mono ?_
  rintro e w6 ⟨rfl,hb⟩
  have hc6_0:w6.cell? ⟨w.heap.size,0,none⟩=some (.int .i64 k):=(hb.cell (p:=⟨w.heap.size,0,none⟩) (by exact hz5)).trans (by exact hc5_0)
  have hc6_1:w6.cell? ⟨w.heap.size,1,none⟩=some (.int .i64 t):=(hb.cell (p:=⟨w.heap.size,1,none⟩) (by exact hz5)).trans (by exact hc5_1)
  have hc6_2:w6.cell? ⟨w.heap.size,2,none⟩=some (.int .i64 pg):=(hb.cell (p:=⟨w.heap.size,2,none⟩) (by exact hz5)).trans (by exact hc5_2)
  have hc6_3:w6.cell? ⟨w.heap.size,3,none⟩=some (.int .i64 pv):=(hb.cell (p:=⟨w.heap.size,3,none⟩) (by exact hz5)).trans (by exact hc5_3)
  have hc6_4:w6.cell? ⟨w.heap.size,4,none⟩=some (.int .i64 nx):=(hb.cell (p:=⟨w.heap.size,4,none⟩) (by exact hz5)).trans (by exact hc5_4)
  have hc6_5:w6.cell? ⟨w.heap.size,5,none⟩=some (.int .i64 ky):=(hb.cell (p:=⟨w.heap.size,5,none⟩) (by exact hz5)).trans (by exact hc5_5)
  have hc6_6:w6.cell? ⟨w.heap.size,6,none⟩=some (.bool hd):=(hb.cell (p:=⟨w.heap.size,6,none⟩) (by exact hz5)).trans (by exact hc5_6)
  have hc6_7:w6.cell? ⟨w.heap.size,7,none⟩=some (.bool hh):=(hb.cell (p:=⟨w.heap.size,7,none⟩) (by exact hz5)).trans (by exact hc5_7)
  have hc6_8:w6.cell? ⟨w.heap.size,8,none⟩=some (.int .i64 ol):=(hb.cell (p:=⟨w.heap.size,8,none⟩) (by exact hz5)).trans (by exact hc5_8)
  have hc6_9:w6.cell? ⟨w.heap.size,9,none⟩=some (.int .i64 nw):=(hb.cell (p:=⟨w.heap.size,9,none⟩) (by exact hz5)).trans (by exact hc5_9)
  have hz6:w.heap.size<w6.heap.size:=by have:=hb.size;omega
  have hg16:w6.cell? ⟨6,0,none⟩=some (.iface 333 (.pointer (some (a 1)))):=(hb.cell (p:=⟨6,0,none⟩) (by show 6<_;omega)).trans (by exact hg15)
  replace HB:=Aside0.mk (below_step HB.out hb)
  clear hc5_0 hc5_1 hc5_2 hc5_3 hc5_4 hc5_5 hc5_6 hc5_7 hc5_8 hc5_9 hg15
  clear hb
  cases b7 with
  | false=>
    go_wp2_with fail
    go_ret
    exact⟨by simp[HBAD.out (by simp)],HB.out⟩
  | true=>
  go_wp2_with fail
  go_ret
  exact⟨by simp[HGOOD.out (by simp)],HB.out⟩
end Go.Proofs.YtaplpeoikebedaaGreatDoor.RecC
namespace Go.Proofs.YtaplpeoikebedaaGreatDoor.RecB
open Go.RowKit YtaplpeoikebedaaGreatDoorW.PrintWords YtaplpeoikebedaaGreatDoorW.PrintLast YtaplpeoikebedaaGreatDoorW.PrintMore
open See Mem Clone Go.Proofs.YtaplpeoikebedaaGreatDoor.Cell Page PageB PageR Disk RecD Rec RecC
attribute [local go_sem] max2_imax min2_imin max_two min_two
def z40:Array Value:=madeCells #[.int .u8 0] 40
theorem z40_list:z40.toList=(List.replicate 40 (0:Int)).map (.int .u8):=by rw[z40,toList_madeCells_one,List.map_replicate]
theorem make40 (W:World):(Instr.makeSlice 93 (.int .i64 40) (.int .i64 40)).run Tryz.prog W = .ok (.slice (some ⟨W.heap.size,0,none⟩) 40 40) (W.alloc (.cells z40 5)):=
  run_make_row' (P:=Tryz.prog) 93 5 (.int .u8 0) 1 Tryz.underlying93 info_u8 rfl .i64 .i64 40 (by decide) (by decide) W
theorem bs_z40 {W:World}{b:Nat}(h:W.heap[b]? = some (.cells z40 5 (0,0))):BS W (.slice (some ⟨b,0,none⟩) 40 40) (List.replicate 40 0):=by
  have hl:z40.size=40:=size_madeCells _ _
  refine⟨by simp,by simp,.inr ⟨b,0,40,z40,_,by simp,h,by simp,by decide,by simp[hl],?_⟩⟩
  rw[List.drop_zero,z40_list,List.length_replicate]
  exact List.take_of_length_le (by simp)
def partsA (r:RecV):Array Value:=#[.int .u64 0,.int .u64 1,.int .u64 (IntKind.u64.wrap r.kind),.int .u64 1,.int .u64 1,.int .u64 (IntKind.u64.wrap (flagsOf r)),.int .u64 2,.int .u64 2,.int .u64 (IntKind.u64.wrap r.txn),.int .u64 4,.int .u64 2,.int .u64 (IntKind.u64.wrap r.page),.int .u64 8,.int .u64 4,.int .u64 (IntKind.u64.wrap r.prev),.int .u64 12,.int .u64 4,.int .u64 (IntKind.u64.wrap r.next),.int .u64 16,.int .u64 4,.int .u64 (IntKind.u64.wrap r.key),.int .u64 24,.int .u64 8,.int .u64 (IntKind.u64.wrap r.old),.int .u64 32,.int .u64 8,.int .u64 (IntKind.u64.wrap r.new)]
theorem partsA_at (r:RecV) : ∀i,i<9→(partsA r)[i*3]? = some (.int .u64 (recPart r i).1)∧(partsA r)[i*3+1]? = some (.int .u64 (recPart r i).2.1)∧(partsA r)[i*3+2]? = some (.int .u64 (IntKind.u64.wrap (recPart r i).2.2)):=by
  intro i hi
  match i,hi with
  | 0,_=>exact⟨rfl,rfl,rfl⟩
  | 1,_=>exact⟨rfl,rfl,rfl⟩
  | 2,_=>exact⟨rfl,rfl,rfl⟩
  | 3,_=>exact⟨rfl,rfl,rfl⟩
  | 4,_=>exact⟨rfl,rfl,rfl⟩
  | 5,_=>exact⟨rfl,rfl,rfl⟩
  | 6,_=>exact⟨rfl,rfl,rfl⟩
  | 7,_=>exact⟨rfl,rfl,rfl⟩
  | 8,_=>exact⟨rfl,rfl,rfl⟩
theorem flags_or (hd hh:Bool)(r:RecV)(h1:r.had=hd)(h2:r.has=hh):(if hh then bits .or .u64 (if hd then bits .or .u64 0 1 else 0) 2 else (if hd then bits .or .u64 0 1 else 0))=IntKind.u64.wrap (flagsOf r):=by
  unfold flagsOf;rw[h1,h2]
  cases hd<;>cases hh<;>decide
def recBV (r:RecV):List Int:=if recOk r then recBytes r else []
theorem rbytes_calls (a:Nat→Addr)(r:RecV)(w:World)(hs:Sents w a) :
    Calls Tryz.prog 190 #[recV r] w fun e w' => ∃v,e = .returned (.tuple #[v,errv a (recE r)])∧BS w' v (recBV r)∧Below w.heap.size w w':=by
  have HS:=Aside0.mk hs
  clear hs
  obtain⟨k,t,pg,pv,nx,ky,hd,hh,ol,nw⟩:=r
  obtain⟨ok,hok⟩ : ∃ok,recOk ⟨k,t,pg,pv,nx,ky,hd,hh,ol,nw⟩=ok:=⟨_,rfl⟩
  have HOK:=Aside0.mk hok
  clear hok
  go_enter Tryz.func190,Tryz.ntmps190
  go_wp2_with fail
  refine (check_calls a ⟨k,t,pg,pv,nx,ky,hd,hh,ol,nw⟩ _ (by exact HS.out.below (below_alloc (Below.refl _ _) _))).mono ?_
  rintro e w1 ⟨rfl,hb⟩
  have hc0:w1.cell? ⟨w.heap.size,0,none⟩=some (.int .i64 k):=(hb.cell (p:=⟨w.heap.size,0,none⟩) (by simp)).trans (by simp)
  have hc1:w1.cell? ⟨w.heap.size,1,none⟩=some (.int .i64 t):=(hb.cell (p:=⟨w.heap.size,1,none⟩) (by simp)).trans (by simp)
  have hc2:w1.cell? ⟨w.heap.size,2,none⟩=some (.int .i64 pg):=(hb.cell (p:=⟨w.heap.size,2,none⟩) (by simp)).trans (by simp)
  have hc3:w1.cell? ⟨w.heap.size,3,none⟩=some (.int .i64 pv):=(hb.cell (p:=⟨w.heap.size,3,none⟩) (by simp)).trans (by simp)
  have hc4:w1.cell? ⟨w.heap.size,4,none⟩=some (.int .i64 nx):=(hb.cell (p:=⟨w.heap.size,4,none⟩) (by simp)).trans (by simp)
  have hc5:w1.cell? ⟨w.heap.size,5,none⟩=some (.int .i64 ky):=(hb.cell (p:=⟨w.heap.size,5,none⟩) (by simp)).trans (by simp)
  have hc6:w1.cell? ⟨w.heap.size,6,none⟩=some (.bool hd):=(hb.cell (p:=⟨w.heap.size,6,none⟩) (by simp)).trans (by simp)
  have hc7:w1.cell? ⟨w.heap.size,7,none⟩=some (.bool hh):=(hb.cell (p:=⟨w.heap.size,7,none⟩) (by simp)).trans (by simp)
  have hc8:w1.cell? ⟨w.heap.size,8,none⟩=some (.int .i64 ol):=(hb.cell (p:=⟨w.heap.size,8,none⟩) (by simp)).trans (by simp)
  have hc9:w1.cell? ⟨w.heap.size,9,none⟩=some (.int .i64 nw):=(hb.cell (p:=⟨w.heap.size,9,none⟩) (by simp)).trans (by simp)
  have hz:w.heap.size<w1.heap.size:=by have:=hb.size;simp at this;omega
  have HB:=Aside0.mk (below_step (below_alloc (Below.refl w.heap.size w) (.cells #[.int .i64 k,.int .i64 t,.int .i64 pg,.int .i64 pv,.int .i64 nx,.int .i64 ky,.bool hd,.bool hh,.int .i64 ol,.int .i64 nw] 46)) hb)
  clear hb
  cases ok with
  | false=>
    have hce:errv a (recE ⟨k,t,pg,pv,nx,ky,hd,hh,ol,nw⟩) = .iface 333 (.pointer (some (a 1))):=by unfold recE;rw[HOK.out];rfl
    have HCE:=Aside0.mk hce
    rw[hce]
    clear hce
    go_wp2_with fail
    exact bodyPost_ret (v:=.tuple #[.slice none 0 0,.iface 333 (.pointer (some (a 1)))]) (by simp[results,Tryz.results190,go_sem]) rfl ⟨_,by first | rfl | rw[HCE.out],by unfold recBV;rw[HOK.out];exact BS.nil _,HB.out⟩
  | true=>
    have hce:errv a (recE ⟨k,t,pg,pv,nx,ky,hd,hh,ol,nw⟩) = .nilIface:=by unfold recE;rw[HOK.out];rfl
    have HCE:=Aside0.mk hce
    rw[hce]
    clear hce
    have hmk:=make40
    obtain⟨f1,hf1⟩ : ∃f1:Int,(if hd then bits .or .u64 0 1 else 0)=f1:=⟨_,rfl⟩
    obtain⟨f2,hf2⟩ : ∃f2:Int,(if hh then bits .or .u64 f1 2 else f1)=f2:=⟨_,rfl⟩
    have HF1:=Aside0.mk hf1
    have HF2:=Aside0.mk hf2
    clear hf1 hf2
    go_upto_if 15 with fail
    go_cut [5] (fun s5 wx=>s5 = .int .u64 f1∧wx=w1)
    case first=>
      have:=HF1.out
      cases hd with
      | true=>go_wp2_with fail;go_meet;exact⟨by rw[←this];rfl,rfl⟩
      | false=>go_wp2_with fail;go_meet;exact⟨by rw[←this];rfl,rfl⟩
    case rest=>
    obtain⟨rfl,rfl⟩:=hcut
    go_upto_if 19 with fail
    go_cut [5] (fun s5 wx=>s5 = .int .u64 f2∧wx=wc)
    case first=>
      have:=HF2.out
      cases hh with
      | true=>go_wp2_with fail;go_meet;exact⟨by rw[←this];rfl,rfl⟩
      | false=>go_wp2_with fail;go_meet;exact⟨by rw[←this];rfl,rfl⟩
    case rest=>
    obtain⟨rfl,rfl⟩:=hcut
    have hf3:f2=IntKind.u64.wrap (flagsOf ⟨k,t,pg,pv,nx,ky,hd,hh,ol,nw⟩):=by rw[←HF2.out,←HF1.out];exact flags_or hd hh _ rfl rfl
    have HF3:=Aside0.mk hf3
    clear hf3
    obtain⟨wo,rfl⟩ : ∃wo:World,wo=wc:=⟨_,rfl⟩
    go_wp2_with fail
    obtain⟨r,hr⟩ : ∃r:RecV,r=⟨k,t,pg,pv,nx,ky,hd,hh,ol,nw⟩:=⟨_,rfl⟩
    have HRR:=Aside0.mk hr
    clear hr
    clear hc0 hc1 hc2 hc3 hc4 hc5 hc6 hc7 hc8 hc9
    go_loopg [6,59] 10 (fun kq v6 v59 w' => ∃(i:Int) (v:Value),v6=v∧v59 = .int .i64 i∧Aside0 (0≤i∧i≤9∧(kq:Int)=10 - i)∧Aside0 (w'.heap[wo.heap.size+1]? = some (.cells (partsA r) 304 (0,0)))∧Aside0 (BS w' v (recN r i.toNat))∧Aside0 (Below w.heap.size w w'))
    case atStart=>
      refine⟨0,_,rfl,rfl,⟨by omega,by omega,by omega⟩,⟨?_⟩,⟨?_⟩,⟨by repeat (first | exact HB.out | apply below_drew1 | apply below_alloc)⟩⟩
      · rw[HRR.out]
        unfold partsA
        simp only
        rw[←HF3.out]
        show ((wo.heap.push _).push _)[wo.heap.size+1]? = _
        rw[show wo.heap.size+1=(wo.heap.push (Obj.cells z40 5)).size from by simp]
        exact Array.getElem?_push_size
      · exact bs_z40 (by
          show ((wo.heap.push _).push _)[wo.heap.size]? = _
          rw[Array.getElem?_push,if_neg (by simp),Array.getElem?_push_size])
    case round=>
      obtain⟨i,v,rfl,rfl,HI,HP,HV,HB2⟩:=hrel
      have hi0:0≤i:=HI.out.1
      by_cases hlt:i<9
      · obtain⟨p0,p1,p2⟩:=partsA_at r i.toNat (by omega)
        obtain⟨q0,q1,q2,q3⟩:=recPart_fits r i.toNat (by omega)
        have hl:(recN r i.toNat).length=40:=recN_len r i.toNat (by omega)
        have hstep:recN r (i.toNat+1)=putL (recN r i.toNat) (recPart r i.toNat).1.toNat (recPart r i.toNat).2.1.toNat (IntKind.u64.wrap (recPart r i.toNat).2.2):=rfl
        obtain⟨⟨x0,x1,x2⟩,hx⟩ : ∃x,recPart r i.toNat=x:=⟨_,rfl⟩
        rw[hx] at p0 p1 p2 q0 q1 q2 q3 hstep
        simp only at p0 p1 p2 q0 q1 q2 q3 hstep
        have hd0:wr.cell? ⟨wo.heap.size+1,i.toNat*3,none⟩=some (.int .u64 x0):=by simp only[World.cell?,HP.out];simpa using p0
        have hd1:wr.cell? ⟨wo.heap.size+1,i.toNat*3+1,none⟩=some (.int .u64 x1):=by simp only[World.cell?,HP.out];simpa using p1
        have hd2:wr.cell? ⟨wo.heap.size+1,i.toNat*3+2,none⟩=some (.int .u64 (IntKind.u64.wrap x2)):=by simp only[World.cell?,HP.out];simpa using p2
        obtain⟨y,hy⟩ : ∃y,IntKind.u64.wrap x2=y:=⟨_,rfl⟩
        have hy0:0≤y:=by rw[←hy];exact u64_nonneg _
        rw[hy] at hd2 hstep
        have q4:x0≤40:=by omega
        have q5:x1≤40:=by omega
        have hw0:IntKind.i64.wrap x0=x0:=IntWalk.i64_in _ (by omega)
        have hw1:IntKind.i64.wrap x1=x1:=IntWalk.i64_in _ (by omega)
        have HST:=Aside0.mk hstep
        have HLL:=Aside0.mk hl
        clear p0 p1 p2 hl hstep hx hy
        go_wp2_with fail
        refine (put_calls _ (recN r i.toNat) x0 x1 y (by omega) (by omega) (by omega) (by rw[HLL.out];omega) hy0 _ (BS.below HV.out (by repeat (first | exact Below.refl _ _ | apply below_drew1 | apply below_alloc)))).mono ?_
        rintro e w5 ⟨v5,rfl,hv5,hb5⟩
        have HV5:=Aside0.mk hv5
        have HB5:=Aside0.mk (below_step (by repeat (first | exact HB2.out | apply below_drew1 | apply below_alloc)) hb5)
        have HP5:=Aside0.mk (show w5.heap[wo.heap.size+1]? = some (.cells (partsA r) 304 (0,0)) from by
          have hlt:=heap_lt HP.out
          rw[hb5.block (wo.heap.size+1) (by simp;omega)]
          exact (Below.heap_alloc _ _ _ hlt).trans HP.out)
        clear hv5 hb5 hw0 hw1
        go_wp2_with fail
        go_roundg (gk - 1)
        case measure=>have:=HI.out;omega
        case rel=>
          refine⟨i+1,_,rfl,rfl,⟨by omega,by omega,by have:=HI.out;omega⟩,HP5,⟨?_⟩,HB5⟩
          rw[show (i+1).toNat=i.toNat+1 from by omega,HST.out]
          exact HV5.out
      · have HE:=Aside0.mk (show recN r i.toNat=recBV ⟨k,t,pg,pv,nx,ky,hd,hh,ol,nw⟩ by
          unfold recBV
          rw[HOK.out,show i.toNat=9 from by have:=HI.out;omega,HRR.out];rfl)
        go_wp2_with fail
        exact bodyPost_ret (v:=.tuple #[u6,.nilIface]) (by simp[results,Tryz.results190,go_sem]) rfl ⟨u6,by rw[HCE.out],by
          have:=HV.out
          rw[HE.out] at this
          exact this,HB2.out⟩
end Go.Proofs.YtaplpeoikebedaaGreatDoor.RecB
