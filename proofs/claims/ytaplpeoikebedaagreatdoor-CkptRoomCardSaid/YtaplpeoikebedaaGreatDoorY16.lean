/- Joined texts: PoolF, PoolE. No condition but what each says. -/
import Derived.Test.YtaplpeoikebedaaGreatDoorY15
import Derived.Test.YtaplpeoikebedaaGreatDoorY12
set_option maxHeartbeats 8000000
set_option maxRecDepth 100000
set_option linter.unusedVariables false
set_option linter.unusedSimpArgs false
namespace Go.Proofs.YtaplpeoikebedaaGreatDoor.PoolF
open Go.RowKit YtaplpeoikebedaaGreatDoorW.PrintWords YtaplpeoikebedaaGreatDoorW.PrintLast YtaplpeoikebedaaGreatDoorW.PrintMore
open See Mem Clone Go.Proofs.YtaplpeoikebedaaGreatDoor.Cell Page PageB PageR Disk DiskW DiskS RecD Pool1 Pool3 Wal WalF Dirty Dirty2 SysD SysM
attribute [local go_sem] max2_imax min2_imin max_two min_two
def PFlushPost (a:Nat→Addr)(M:Nat→Prop)(pp lp dp:Nat)(S:PSys)(n:Int)(w:World)(e:Ending)(w':World):Prop:=
  e = .returned (errv a (flushS S n).2)∧SysM (Gr M w w') w' pp lp dp (flushS S n).1∧Frm sTurn M w w'
theorem pool_cells {M:Nat→Prop}{w:World}{pp lp dp:Nat}{t h:Value}{f:Int}{ds:List (Int×Int)}(x:TabM M w pp (poolCells t dp lp f h) t ds) :
    w.cell? ⟨pp,0,none⟩=some t∧w.cell? ⟨pp,1,none⟩=some (.pointer (some ⟨dp,0,none⟩))∧w.cell? ⟨pp,2,none⟩=some (.pointer (some ⟨lp,0,none⟩))∧w.cell? ⟨pp,3,none⟩=some (.int .i64 f)∧w.cell? ⟨pp,4,none⟩=some h:=by
  refine⟨?_,?_,?_,?_,?_⟩<;>simp[World.cell?,x.box,poolCells]
theorem dropT_len (ds:List (Int×Int))(n:Int):(dropT ds n).length≤ds.length:=by
  unfold dropT;split
  · exact (List.eraseIdx_sublist _ _).length_le
  · exact Nat.le_refl _
theorem gr_gr {M:Nat→Prop}{w w1 w2 w3:World}(h1:w.heap.size≤w1.heap.size)(h2:w1.heap.size≤w2.heap.size)(h3:w2.heap.size≤w3.heap.size){k:Nat}(h:Gr (Gr M w w1) w2 w3 k):Gr M w w3 k:=by
  rcases h with (h | ⟨ha,hb⟩) | ⟨ha,hb⟩
  · exact .inl h
  · exact .inr ⟨ha,by omega⟩
  · exact .inr ⟨by omega,hb⟩
theorem frm_gr {T:List Nat}{M:Nat→Prop}{w w1 w2 w3:World}(h0:Frm T M w w1)(h:Below w1.heap.size w1 w2)(k:Frm T (Gr M w w1) w2 w3):Frm T M w w3:=
  (h0.step h).transG (k.wide (fun _ h=>h) fun j _ hj=>by
    rcases hj with hj | ⟨a,b⟩
    · exact .inl hj
    · exact .inr ⟨a,by have:=h.size;omega⟩)
theorem flush_pool (a:Nat→Addr)(M:Nat→Prop)(pp lp dp:Nat)(S:PSys)(n:Int)(w:World)(hs:Sents w a)(hO:Out M a)(x:SysM M w pp lp dp S)(hlo:LooseLe S.d 40000) :
    Calls Tryz.prog 100 #[.pointer (some ⟨pp,0,none⟩),.int .i64 n] w (PFlushPost a M pp lp dp S n w):=by
  obtain⟨t,h,fs,ht,hh⟩:=x.pool
  obtain⟨c0,c1,c2,c3,c4⟩:=pool_cells ht
  have HS:=Aside0.mk hs
  have HO:=Aside0.mk hO
  have HX:=Aside0.mk x
  have HT:=Aside0.mk ht
  have HH:=Aside0.mk hh
  have HLO:=Aside0.mk hlo
  have HAT:=Aside0.mk (at_pool pp h fs n w hh.frs c4)
  have hpl:=heap_lt ht.box
  have HPOST:=Aside0.mk (show flushS S n=(S,none)→∀w',Below w.heap.size w w'→PFlushPost a M pp lp dp S n w (.returned .nilIface) w' from fun h0 w' hb=>⟨by rw[h0];rfl,by rw[h0];exact (x.below hb).mono fun k hk=>.inl hk,Frm.of_below hb⟩)
  have HIF:=Aside0.mk (idx_find n fs 0)
  have HFR:=Aside0.mk (fun W h1 h2 h3=>from_calls pp t S.t n W h1 h2 h3)
  clear hs hO x ht hh hlo
  cases hhas:has S.t n with
  | false=>
    obtain⟨ix,hix⟩ : ∃ix:Int,idxOf fs n=ix:=⟨_,rfl⟩
    have hat:=HAT.out
    rw[hix] at hat
    replace HAT:=Aside0.mk hat
    replace HPOST:=Aside0.mk (HPOST.out (flushS_clean hhas))
    have HHAS:=Aside0.mk hhas
    clear hat hix hhas c1 c2 c3 c4
    by_cases hneg:ix<0
    all_goals
      go_enter Tryz.func100,Tryz.ntmps100
      go_wp2_with fail
      refine HAT.out.mono ?_
      rintro e w1 ⟨rfl,hb⟩
      have HB:=Aside0.mk hb
      clear hb
      go_wp2_with fail
      refine (HFR.out _ (HT.out.below HB.out).row HT.out.rise (HT.out.below HB.out).cell).mono ?_
      rintro e w2 ⟨rfl,hb⟩
      rw[HHAS.out]
      replace HB:=Aside0.mk (below_step HB.out hb)
      clear hb
      go_wp2_with fail
      go_ret
      exact HPOST.out _ HB.out
  | true=>
    have HHAS:=Aside0.mk hhas
    clear hhas
    rcases HIF.out with ⟨hn,hi⟩ | ⟨i,f,hfd,hfi,hfn,hi⟩
    · have hat:=HAT.out
      rw[show idxOf fs n = -1 from hi] at hat
      replace HAT:=Aside0.mk hat
      replace HPOST:=Aside0.mk (HPOST.out (flushS_none (by rw[←HH.out.eq];exact hn)))
      clear hat hn hi c1 c2 c3 c4
      go_enter Tryz.func100,Tryz.ntmps100
      go_wp2_with fail
      refine HAT.out.mono ?_
      rintro e w1 ⟨rfl,hb⟩
      have HB:=Aside0.mk hb
      clear hb
      go_wp2_with fail
      refine (HFR.out _ (HT.out.below HB.out).row HT.out.rise (HT.out.below HB.out).cell).mono ?_
      rintro e w2 ⟨rfl,hb⟩
      rw[HHAS.out]
      replace HB:=Aside0.mk (below_step HB.out hb)
      clear hb
      go_wp2_with fail
      go_ret
      exact HPOST.out _ HB.out
    · have hat:=HAT.out
      rw[show idxOf fs n=(i:Int) from by unfold idxOf;rw[hi];omega] at hat
      replace HAT:=Aside0.mk hat
      have hil:i<8:=by have:=(List.getElem?_eq_some_iff.1 hfi).1;have:=HH.out.frs.few;omega
      obtain⟨A,cap,hv,_⟩:=ow_slice HH.out.frs.row
      obtain⟨fl,hfl⟩ : ∃fl,fs.length=fl:=⟨_,rfl⟩
      have hifl:i<fl:=by rw[←hfl];exact (List.getElem?_eq_some_iff.1 hfi).1
      rw[hfl] at hv
      have HFI:=Aside0.mk hfi
      have HFD:=Aside0.mk (show findP S.here n=some (forget f) by rw[←HH.out.eq];exact hfd)
      have HOKF:=Aside0.mk (show pageOk f.lsn f.es=true from HX.out.here.ok (forget f) (by rw[←HH.out.eq];exact List.mem_map_of_mem (List.mem_of_getElem? hfi)))
      obtain⟨fn,lsn,fv,es⟩:=f
      simp only at hfn
      clear hat hfd hfi hi hfn hfl HIF HPOST
      go_enter Tryz.func100,Tryz.ntmps100
      go_wp2_with fail
      refine HAT.out.mono ?_
      rintro e w1 ⟨rfl,hb⟩
      have HB:=Aside0.mk hb
      clear hb
      go_wp2_with fail
      refine (HFR.out _ (HT.out.below HB.out).row HT.out.rise (HT.out.below HB.out).cell).mono ?_
      rintro e w2 ⟨rfl,hb⟩
      rw[HHAS.out]
      replace HB:=Aside0.mk (below_step HB.out hb)
      clear hb
      have ht2:=HT.out.below HB.out
      have hh2:=HH.out.below HB.out
      obtain⟨g0,g1,g2,g3,g4⟩:=pool_cells ht2
      subst hv
      obtain⟨g,hA,_,d0,d1,d2,A',c',hfv⟩:=hh2.frs.at HFI.out
      simp only at d0 d1 d2 hfv
      have HP2:=Aside0.mk (show P2 w2 169 fv es from hh2.frs.pages ⟨fn,lsn,fv,es⟩ (List.mem_of_getElem? HFI.out))
      subst hA hfv
      have hii:(0:Int)≤(i:Int):=by omega
      have hpl2:=heap_lt ht2.box
      have HX2:=Aside0.mk (HX.out.below HB.out)
      clear c0 c1 c2 c3 c4 ht2 hh2 d0
      go_wp2_with fail
      obtain⟨lv,hlg⟩:=HX2.out.log
      have HLG:=Aside0.mk hlg
      obtain⟨dn,hdn⟩ : ∃dn,S.l.doneN=dn:=⟨_,rfl⟩
      have HDN:=Aside0.mk hdn
      have hz2:w2.heap.size<w2.heap.size+1:=by omega
      clear hlg hdn
      go_region_held3 (fun w'=>w'.cell? ⟨w2.heap.size,0,none⟩=some (.int .i64 lsn)∧w'.cell? ⟨pp,2,none⟩=some (.pointer (some ⟨lp,0,none⟩)))
        (refine⟨?_,?_⟩<;>(first | go_keep | exact hk1 | exact hk2))
        (first | (go_at_call 26;refine (done_log M lp dp lv S.l _ (by exact HLG.out.below (by repeat (first | exact Below.refl _ _ | apply below_drew1 | apply below_alloc)))).mono ?_;rintro e w3 ⟨rfl,hb⟩;rw[HDN.out];have hk1:w3.cell? ⟨w2.heap.size,0,none⟩=some (.int .i64 lsn):=pw_cell_below hb (by simp);have hk2:w3.cell? ⟨pp,2,none⟩=some (.pointer (some ⟨lp,0,none⟩)):=pw_cell_below hb (by show (w2.alloc _).cell? _=_;rw[World.cell?_alloc_lt _ _ _ (by exact hpl2)];exact g2)))
      have HBK:=Aside0.mk (show w3.heap[w2.heap.size]? = some (.cells #[.int .i64 lsn,.slice A' es.length c'] 74 (0,0)) from (hb.block w2.heap.size (by simp)).trans (heap_alloc_new w2 _))
      have HB3:=Aside0.mk (show Below w2.heap.size w2 w3 from below_step (by repeat (first | exact Below.refl _ _ | apply below_drew1 | apply below_alloc)) hb)
      have f2:w3.cell? ⟨pp,2,none⟩=some (.pointer (some ⟨lp,0,none⟩)):=hk2
      clear hb hk1 hk2 g0 g1 g2 g3 g4 d1 d2 hz2
      have HB30:=Aside0.mk (below_step HB.out HB3.out)
      have HX3:=Aside0.mk (HX.out.below HB30.out)
      have HS3:=Aside0.mk (HS.out.below HB30.out)
      have HP3:=Aside0.mk (P2.below HP2.out HB3.out)
      go_upto_if 45 with fail
      go_cut [] (fun wx => ∃S1:PSys,Aside0 (SysM (Gr M w wx) wx pp lp dp S1)∧Aside0 (Frm sTurn M w wx)∧Aside0 (LooseLe S1.d 48000)∧Aside0 (flushS S n=flushTail S1 n ⟨fn,lsn,es⟩)∧Aside0 (wx.heap[w2.heap.size]? = some (.cells #[.int .i64 lsn,.slice A' es.length c'] 74 (0,0)))∧Aside0 (P2 wx 169 (.slice A' es.length c') es))
      case first=>
        by_cases hdl:dn<lsn
        · have HDL:=Aside0.mk (show S.l.doneN<(⟨fn,lsn,es⟩:Fp).lsn by rw[HDN.out];exact hdl)
          have q1:decide (dn<lsn)=true:=decide_eq_true hdl
          clear hdl
          rw[q1]
          go_wp2_with fail
          refine (flush_log a M lp dp lv S.l S.d _ HS3.out HO.out HX3.out.dsk (HLG.out.below HB3.out) HX.out.fuse (HLO.out.mono (by omega))).mono ?_
          rintro e w4 ⟨rfl,hd4,hl4,hf4⟩
          obtain⟨o1,o2,o3⟩:=lflush_ok (L:=S.l) HX.out.fuse HLO.out
          have hll:=(lg_bounds HLG.out.ok).2.2.2.2.2.2.1
          have HF4:=Aside0.mk (show Frm sTurn M w w4 from (Frm.of_below HB30.out).trans (frm_sys2 hf4))
          have HX4:=Aside0.mk (show SysM (Gr M w w4) w4 pp lp dp { S with l:=(lflush S.l S.d).1,d:=(lflush S.l S.d).2.1 } from (HX3.out.logd hd4 hl4 hf4 o1).mono fun k hk=>by
            rcases hk with hk | ⟨h1,h2⟩
            · exact .inl hk
            · exact .inr ⟨by have:=HB30.out.size;omega,h2⟩)
          have HL4:=Aside0.mk (show LooseLe (lflush S.l S.d).2.1 48000 from o2.mono (by omega))
          have HBK4:=Aside0.mk (hf4.at HBK.out (.inl (by decide)))
          have HP4:=Aside0.mk (HP3.out.frm hf4 (by decide))
          clear hd4 hl4 hf4 o1 o2 o3 hll
          obtain⟨q,hq⟩ : ∃q,lflush S.l S.d=q:=⟨_,rfl⟩
          obtain⟨L',d',o⟩:=q
          rw[hq] at HX4 HL4
          rw[hq]
          simp only at HX4 HL4
          have HQ:=Aside0.mk hq
          clear hq
          cases o with
          | some e=>
            have HR:=Aside0.mk (flushS_err HFD.out HHAS.out HDL.out HQ.out)
            rw[show errv a (L',d',some e).2.2 = .iface 333 (.pointer (some (a e))) from rfl]
            go_wp2_with fail
            go_ret
            exact⟨by rw[HR.out];rfl,by rw[HR.out];exact HX4.out,HF4.out⟩
          | none=>
            have HR:=Aside0.mk (flushS_log HFD.out HHAS.out HDL.out HQ.out)
            rw[show errv a (L',d',none).2.2 = .nilIface from rfl]
            go_wp2_with fail
            go_meet
            exact⟨_,HX4,HF4,HL4,HR,HBK4,HP4⟩
        · have HR:=Aside0.mk (flushS_tail HFD.out HHAS.out (show ¬S.l.doneN<(⟨fn,lsn,es⟩:Fp).lsn by rw[HDN.out];exact hdl))
          have q1:decide (dn<lsn)=false:=decide_eq_false hdl
          clear hdl
          rw[q1]
          go_wp2_with fail
          go_meet
          exact⟨S,⟨HX3.out.mono fun k hk=>.inl hk⟩,⟨Frm.of_below HB30.out⟩,⟨HLO.out.mono (by omega)⟩,HR,HBK,HP3⟩
      case rest=>
        obtain⟨S1,HX4,HF4,HL4,HFT,HBK4,HP4⟩:=hcut
        have e0:wc.cell? ⟨w2.heap.size,0,none⟩=some (.int .i64 lsn):=by simp[World.cell?,HBK4.out]
        have e1:wc.cell? ⟨w2.heap.size,1,none⟩=some (.slice A' es.length c'):=by simp[World.cell?,HBK4.out]
        have HS4:=Aside0.mk (sents_frm HS.out HF4.out HO.out)
        have HO4:=Aside0.mk (HO.out.gr HS.out (w':=wc))
        clear f2
        go_wp2_with fail
        refine (bytes_calls a lsn _ es _ HS4.out HP4.out).mono ?_
        rintro e w5 ⟨b5,rfl,hb5,hB5⟩
        have hce:checkE lsn es=none:=by unfold checkE;rw[HOKF.out];rfl
        rw[hce,show errv a none = .nilIface from rfl]
        have HBS5:=Aside0.mk (show BS w5 b5 (pageBytes lsn es) by have h:=hb5;unfold bytesV at h;rw[HOKF.out] at h;exact h)
        have HB5:=Aside0.mk hB5
        obtain⟨t1,h1,fs1,ht1,hh1⟩:=HX4.out.pool
        obtain⟨_,k1,_,_,_⟩:=pool_cells (ht1.below hB5)
        obtain⟨A5,c5,rfl,_⟩:=Rd.form hb5
        clear hb5 hB5 hce e0 e1 ht1 hh1
        go_wp2_with fail
        refine (write_disk a (Gr M w wc) dp S1.d n _ (pageBytes lsn es) _ (HS4.out.below HB5.out) HO4.out (HX4.out.dsk.below HB5.out) HBS5.out (pbN_isB lsn es _) HX4.out.fuse (HL4.out.mono (by omega))).mono ?_
        rintro e w6 ⟨rfl,hd6,hf6⟩
        have hz1:=HF4.out.size
        have hz2:=HB5.out.size
        have hz3:=hf6.size
        have HX6:=Aside0.mk (show SysM (Gr M w w6) w6 pp lp dp { S1 with d:=writeD S1.d n (pageBytes lsn es) } from ((HX4.out.below HB5.out).disk hd6 hf6 (writeD_fuse _ _ HX4.out.fuse)).mono fun k hk=>gr_gr hz1 hz2 hz3 hk)
        have HF6:=Aside0.mk (show Frm sTurn M w w6 from frm_gr HF4.out HB5.out (frm_sys1 hf6))
        clear hd6 hf6 hz1 hz2 hz3 k1
        cases hwe:writeE S1.d n (pageBytes lsn es) with
        | some e=>
          have HR:=Aside0.mk (show flushS S n=({ S1 with d:=writeD S1.d n (pageBytes lsn es) },some e) by rw[HFT.out];unfold flushTail;simp only[hwe])
          rw[show errv a (some e) = .iface 333 (.pointer (some (a e))) from rfl]
          clear hwe
          go_wp2_with fail
          go_ret
          exact⟨by rw[HR.out];rfl,by rw[HR.out];exact HX6.out,HF6.out⟩
        | none=>
          have HR:=Aside0.mk (show flushS S n=({ S1 with d:=writeD S1.d n (pageBytes lsn es),t:=dropT S1.t n },none) by rw[HFT.out];unfold flushTail;simp only[hwe])
          rw[show errv a none = .nilIface from rfl]
          clear hwe
          obtain⟨t6,h6,fs6,ht6,hh6⟩:=HX6.out.pool
          have HT6:=Aside0.mk ht6
          have HH6:=Aside0.mk hh6
          clear ht6 hh6
          go_wp2_with fail
          refine (drop_calls (Gr M w w6) pp _ t6 S1.t n _ HT6.out (by have:=HX4.out.tab;omega)).mono ?_
          rintro e w7 ⟨rfl,hp7⟩
          obtain⟨hx7,hf7⟩:=HX6.out.tabs HT6.out HH6.out hp7 (Nat.le_trans (dropT_len _ _) HX4.out.tab)
          have HX7:=Aside0.mk hx7
          have HF7:=Aside0.mk hf7
          clear hp7 hx7 hf7
          go_wp2_with fail
          go_ret
          exact⟨by rw[HR.out];rfl,by rw[HR.out];exact HX7.out.mono fun k hk=>Gr.trans HF6.out.size HF7.out.size hk,HF6.out.transG (frm_sys3 HF7.out)⟩
end Go.Proofs.YtaplpeoikebedaaGreatDoor.PoolF
namespace Go.Proofs.YtaplpeoikebedaaGreatDoor.PoolE
open Go.RowKit YtaplpeoikebedaaGreatDoorW.PrintWords YtaplpeoikebedaaGreatDoorW.PrintLast YtaplpeoikebedaaGreatDoorW.PrintMore
open See Mem Clone Go.Proofs.YtaplpeoikebedaaGreatDoor.Cell Page PageB PageR Disk DiskW DiskS RecD Pool1 Pool3 Wal WalF Dirty Dirty2 SysD SysM PoolF Del
attribute [local go_sem] max2_imax min2_imin max_two min_two
theorem sys_here {M:Nat→Prop}{w w1:World}{pp lp dp:Nat}{S:PSys}{t h h':Value}{fs fs':List Fr}(x:SysM M w pp lp dp S)(ht:TabM M w pp (poolCells t dp lp S.frames h) t S.t)(hh:FrsP M w h fs S.here)
    (ho:w1.ownsRow 0 157 3 h' fs'.length (frCells fs')) (hp : ∀f∈fs',P2 w1 169 f.v f.es) (hok:HereOk (fs'.map forget)) (hg:w.grownBy w1 h.ownBlock) (hat:h'.ownBlock=h.ownBlock∨∀k,h'.ownBlock=some k→w.heap.size≤k) :
    SysM (Gr M w w1) (w1.setCell ⟨pp,4,none⟩ h') pp lp dp { S with here:=fs'.map forget }∧Frm fTurn M w (w1.setCell ⟨pp,4,none⟩ h'):=by
  have hpl:=heap_lt ht.box
  have hhn:h.ownBlock≠some pp:=fun e=>by
    obtain⟨_,c,hc⟩:=ow_block hh.frs.row e
    rw[ht.box] at hc
    injection hc with hc;injection hc with _ hc
    exact absurd hc (by decide)
  have hb1:w1.heap[pp]? = some (.cells (poolCells t dp lp S.frames h) 163 (0,0)):=(hg.block pp hpl (fun e=>hhn e.symm)).trans ht.box
  have hF1:Frm fTurn M w w1:=(Frm.refl fTurn M w).grown hg (fun k hk hlt=>⟨hh.low k hk,by obtain⟨_,c,hc⟩:=ow_block hh.frs.row hk;rw[tag_of hc];decide⟩)
  have hF:Frm fTurn M w (w1.setCell ⟨pp,4,none⟩ h'):=hF1.set (fun _=>⟨ht.mp,by rw[tag_of ht.box];decide⟩) _
  have hne : ∀(k:Nat) (c:Array Value) (e:Nat),w1.heap[k]? = some (.cells c e (0,0))→e≠163→k≠pp:=fun k c e hk he e2=>by
    subst e2
    rw[hb1] at hk
    injection hk with hk;injection hk with _ hk
    exact he hk.symm
  have hmv : ∀(k:Nat) (c:Array Value) (e:Nat),w1.heap[k]? = some (.cells c e (0,0))→e≠163→(w1.setCell ⟨pp,4,none⟩ h').heap[k]? = w1.heap[k]? := fun k c e hk he=>Below.heap_setCell _ _ _ _ (hne k c e hk he)
  obtain⟨x1,⟨v,x2⟩,_,x5,x6,x7,x8⟩:=x
  refine⟨⟨(x1.frm hF (by decide)).mono fun k hk=>.inl hk,⟨v,(x2.frm hF (by decide)).mono fun k hk=>.inl hk⟩,⟨t,h',fs',⟨?_,ht.at0,ht.row.frm hF (by decide),fun k hk=>.inl (ht.low k hk),.inl ht.mp,ht.rise⟩,⟨⟨?_,fun f hf=>⟨?_,(hp f hf).2⟩,?_⟩,rfl,fun k hk => ?_⟩⟩,x5,hok,x7,x8⟩,hF⟩
  · rw[heap_setCell_same _ _ _ _ _ _ hb1,poolCells_set4]
  · exact ow_move ho fun k hk=>by obtain⟨_,c,hc⟩:=ow_block ho hk;exact hmv k c _ hc (by decide)
  · exact ow_move (hp f hf).1 fun k hk=>by obtain⟨_,c,hc⟩:=ow_block (hp f hf).1 hk;exact hmv k c _ hc (by decide)
  · have:=hok.few;simpa using this
  · rcases hat with hat | hat
    · exact .inl (hh.low k (hat ▸ hk))
    · obtain⟨_,c,hc⟩:=ow_block ho hk
      exact .inr ⟨hat k hk,heap_lt hc⟩
theorem map_erase {α β:Type}(f:α→β) : ∀(l:List α) (k:Nat),(l.eraseIdx k).map f=(l.map f).eraseIdx k
  | [],k=>rfl
  | x :: l,0=>rfl
  | x :: l,k+1=>by simp[map_erase f l k]
theorem here_erase {here:List Fp}(h:HereOk here)(k:Nat):HereOk (here.eraseIdx k):=
  ⟨Nat.le_trans (List.eraseIdx_sublist _ _).length_le h.few,h.once.sublist (List.eraseIdx_sublist _ _),fun f hf=>h.ok f ((List.eraseIdx_sublist _ _).mem hf)⟩
theorem frCells_erase (fs:List Fr)(i:Nat)(h:i<fs.length):frCells (fs.eraseIdx i)=(frCells fs).take (i*3)++(frCells fs).drop ((i+1)*3):=by
  induction fs generalizing i with
  | nil=>simp at h
  | cons d ds ih=>
    cases i with
    | zero=>simp[frCells,List.flatMap_cons]
    | succ i=>
      have:=ih i (by simpa using h)
      unfold frCells at this ⊢
      simp only[List.eraseIdx_cons_succ,List.flatMap_cons]
      rw[this]
      have e1 : ∀X:List Value,([Value.int .i64 d.n,Value.int .i64 d.lsn,d.v]++X).take ((i+1)*3)=[Value.int .i64 d.n,Value.int .i64 d.lsn,d.v]++X.take (i*3):=fun X=>by
        rw[show (i+1)*3=i*3+1+1+1 from by omega];rfl
      have e2 : ∀X:List Value,([Value.int .i64 d.n,Value.int .i64 d.lsn,d.v]++X).drop ((i+1+1)*3)=X.drop ((i+1)*3):=fun X=>by
        rw[show (i+1+1)*3=(i+1)*3+1+1+1 from by omega];rfl
      rw[e1,e2,List.append_assoc]
theorem frCells_one (fs:List Fr)(w:World)(hp : ∀f∈fs,P2 w 169 f.v f.es) : ∀u∈frCells fs,u.oneCell'=true:=fun u hu=>by
  obtain⟨f,hf,h⟩:=List.mem_flatMap.1 hu
  obtain⟨A,c,hv,_⟩:=ow_slice (hp f hf).1
  simp only[List.mem_cons,List.not_mem_nil,or_false] at h
  rcases h with rfl | rfl | rfl
  · rfl
  · rfl
  · rw[hv];rfl
theorem flushS_here (S:PSys)(n:Int):(flushS S n).1.here=S.here∧(flushS S n).1.frames=S.frames:=by
  cases hf:findP S.here n with
  | none=>rw[flushS_none hf];exact⟨rfl,rfl⟩
  | some f=>
    cases hh:has S.t n with
    | false=>rw[flushS_clean hh];exact⟨rfl,rfl⟩
    | true=>
      have tail : ∀S1:PSys,(flushTail S1 n f).1.here=S1.here∧(flushTail S1 n f).1.frames=S1.frames:=fun S1=>by
        unfold flushTail
        cases writeE S1.d n (pageBytes f.lsn f.es)<;>exact⟨rfl,rfl⟩
      by_cases hl:S.l.doneN<f.lsn
      · obtain⟨⟨L',d',o⟩,hq⟩ : ∃q,lflush S.l S.d=q:=⟨_,rfl⟩
        cases o with
        | some e=>rw[flushS_err hf hh hl hq];exact⟨rfl,rfl⟩
        | none=>rw[flushS_log hf hh hl hq];exact tail _
      · rw[flushS_tail hf hh hl];exact tail _
def PEvictPost (a:Nat→Addr)(M:Nat→Prop)(pp lp dp:Nat)(S:PSys)(hint:Int)(w:World)(e:Ending)(w':World):Prop:=
  e = .returned (errv a (evictS S hint).2)∧SysM (Gr M w w') w' pp lp dp (evictS S hint).1∧Frm sTurn M w w'
theorem evict_pool (a:Nat→Addr)(M:Nat→Prop)(pp lp dp:Nat)(S:PSys)(hint:Int)(w:World)(hs:Sents w a)(hO:Out M a)(x:SysM M w pp lp dp S)(hlo:LooseLe S.d 40000)(hb1 : -9223372036854775808≤hint)(hb2:hint≤9223372036854775807) :
    Calls Tryz.prog 92 #[.pointer (some ⟨pp,0,none⟩),.int .i64 hint] w (PEvictPost a M pp lp dp S hint w):=by
  obtain⟨t,h,fs,ht,hh⟩:=x.pool
  obtain⟨c0,c1,c2,c3,c4⟩:=pool_cells ht
  have HX:=Aside0.mk x
  have HH:=Aside0.mk hh
  have HFL:=Aside0.mk (fun n=>flush_pool a M pp lp dp S n w hs hO x hlo)
  obtain⟨A,cap,hv,_⟩:=ow_slice hh.frs.row
  obtain⟨fl,hfl⟩ : ∃fl,fs.length=fl:=⟨_,rfl⟩
  have HLEN:=Aside0.mk (show S.here.length=fl by rw[←hh.eq,List.length_map,hfl])
  have hf8:fl≤8:=by rw[←hfl];exact hh.frs.few
  have HFLN:=Aside0.mk hfl
  rw[hfl] at hv
  have HPOST:=Aside0.mk (show evictS S hint=(S,none)→∀w',Below w.heap.size w w'→PEvictPost a M pp lp dp S hint w (.returned .nilIface) w' from fun h0 w' hb=>⟨by rw[h0];rfl,by rw[h0];exact (x.below hb).mono fun k hk=>.inl hk,Frm.of_below hb⟩)
  clear hs hO x ht hh hlo hfl c0 c1 c2 c3
  subst hv
  by_cases hz:fl=0
  · have HR:=Aside0.mk (show evictS S hint=(S,none) by
      unfold evictS
      rw[List.getElem?_eq_none (by have:=HLEN.out;omega)])
    subst hz
    go_enter Tryz.func92,Tryz.ntmps92
    go_wp2_with fail
    go_ret
    exact HPOST.out HR.out _ (Below.refl _ _)
  · have hne:((fl:Int) == 0)=false:=by simp;omega
    obtain⟨k,hk⟩ : ∃k:Nat,(imax hint 0) % (fl:Int)=k:=⟨((imax hint 0) % (fl:Int)).toNat,by have:=Int.emod_nonneg (imax hint 0) (show (fl:Int)≠0 by omega);omega⟩
    have hi0:0≤imax hint 0:=by rw[imax_eq];omega
    have hi1:imax hint 0≤9223372036854775807:=by rw[imax_eq];omega
    have hkl:k<fl:=by have:=Int.emod_lt_of_pos (imax hint 0) (show (0:Int)<fl by omega);omega
    have HK:=Aside0.mk (show evictK S hint=k by
      unfold evictK
      rw[HLEN.out,←imax_eq]
      have:((((imax hint 0).toNat % fl:Nat)):Int)=(imax hint 0) % (fl:Int):=by rw[Int.natCast_emod];rw[Int.toNat_of_nonneg hi0]
      omega)
    obtain⟨f,hf⟩ : ∃f,fs[k]? = some f:=⟨_,List.getElem?_eq_getElem (by have:=HFLN.out;omega)⟩
    obtain⟨g,hA,hll,d0,d1,d2,A',c',hfv⟩:=HH.out.frs.at hf
    have HF:=Aside0.mk hf
    obtain⟨fn,lsn,fv,es⟩:=f
    simp only at d0 d1 d2 hfv
    have HHK:=Aside0.mk (show S.here[k]? = some ⟨fn,lsn,es⟩ by rw[←HH.out.eq,List.getElem?_map,HF.out];rfl)
    subst hA
    have hfl1:1≤fl:=by omega
    clear hf d1 d2 hfv hb1 hb2 hz hll
    go_enter Tryz.func92,Tryz.ntmps92
    go_wp2_with fail
    refine (HFL.out fn).mono ?_
    rintro e w1 ⟨rfl,x1,f1⟩
    have HX1:=Aside0.mk x1
    have HF1:=Aside0.mk f1
    clear x1 f1 d0 c4
    obtain⟨⟨S1,o⟩,hq⟩ : ∃q,flushS S fn=q:=⟨_,rfl⟩
    have HQ:=Aside0.mk hq
    have HHR:=Aside0.mk (flushS_here S fn)
    rw[hq] at HX1 HHR
    rw[hq]
    simp only at HX1 HHR
    clear hq
    cases o with
    | some e=>
      have HR:=Aside0.mk (show evictS S hint=(S1,some e) by unfold evictS;rw[HK.out,HHK.out];simp only[HQ.out])
      rw[show errv a (S1,some e).2 = .iface 333 (.pointer (some (a e))) from rfl]
      go_wp2_with fail
      go_ret
      exact⟨by rw[HR.out];rfl,by rw[HR.out];exact HX1.out,HF1.out⟩
    | none=>
      have HR:=Aside0.mk (show evictS S hint=({ S1 with here:=S1.here.eraseIdx k },none) by unfold evictS;rw[HK.out,HHK.out];simp only[HQ.out])
      rw[show errv a (S1,none).2 = .nilIface from rfl]
      obtain⟨t1,h1,fs1,ht1,hh1⟩:=HX1.out.pool
      obtain⟨_,_,_,_,g4⟩:=pool_cells ht1
      have hl1:fs1.length=fl:=by rw[←HLEN.out,←HHR.out.1,←hh1.eq,List.length_map]
      obtain⟨gg,cap1,hv1,_,_⟩:=hh1.frs.row.form (by omega)
      rw[hl1] at hv1
      have HT1:=Aside0.mk ht1
      have HH1:=Aside0.mk hh1
      have HL1:=Aside0.mk hl1
      have HZ1:=Aside0.mk (And.intro (heap_lt ht1.box) ht1.box)
      clear ht1 hh1 hl1
      subst hv1
      go_wp2_with fail
      rw[show (k:Int)+1=((k+1:Nat):Int) from by omega]
      refine (del_frames 0 gg fl cap1 k (k+1) (frCells fs1) _ (by have:=HH1.out.frs.row;rw[HL1.out] at this;exact this) (frCells_one fs1 w1 HH1.out.frs.pages) hkl rfl).mono ?_
      rintro e w2 ⟨rfl,ho,hg,hsz⟩
      have HO2:=Aside0.mk ho
      have HG2:=Aside0.mk hg
      have hhn:(Value.slice (some ⟨gg,0,none⟩) fl cap1).ownBlock≠some pp:=fun e=>by
        obtain⟨_,c,hc⟩:=ow_block HH1.out.frs.row e
        rw[HT1.out.box] at hc
        injection hc with hc;injection hc with _ hc
        exact absurd hc (by decide)
      have hb2:w2.heap[pp]? = w1.heap[pp]? := hg.block pp HZ1.out.1 (fun e=>hhn e.symm)
      have g5:w2.cell? ⟨pp,4,none⟩=some (.slice (some ⟨gg,0,none⟩) fl cap1):=(World.cell?_of_block (w:=w1) (a:=⟨pp,4,none⟩) hb2).trans g4
      have g6:w2.frozen? ⟨pp,4,none⟩=false:=(World.frozen?_of_block (w:=w1) (a:=⟨pp,4,none⟩) hb2).trans (HT1.out.frozen 4)
      clear ho hg hb2 hhn g4 hsz
      go_wp2_with fail
      go_ret
      have hkl1:k<fs1.length:=by rw[HL1.out];exact hkl
      have hlen:(fs1.eraseIdx k).length=fl - 1:=by rw[List.length_eraseIdx,if_pos hkl1,HL1.out]
      have hmap:(fs1.eraseIdx k).map forget=S1.here.eraseIdx k:=by rw[←HH1.out.eq,map_erase]
      obtain⟨r1,r2⟩:=sys_here (fs':=fs1.eraseIdx k) (h':=.slice (some ⟨gg,0,none⟩) (fl - 1) cap1) HX1.out HT1.out HH1.out (by rw[hlen,frCells_erase _ _ hkl1];exact HO2.out) (fun f hf=>⟨ow_move (HH1.out.frs.pages f ((List.eraseIdx_sublist _ _).mem hf)).1 fun j hj=>by
          obtain⟨_,c,hc⟩:=ow_block (HH1.out.frs.pages f ((List.eraseIdx_sublist _ _).mem hf)).1 hj
          refine HG2.out.block j (heap_lt hc) fun e => ?_
          obtain⟨_,c2,hc2⟩:=ow_block HH1.out.frs.row e.symm
          rw[hc2] at hc
          injection hc with hc;injection hc with _ hc
          exact absurd hc (by decide),(HH1.out.frs.pages f ((List.eraseIdx_sublist _ _).mem hf)).2⟩) (by rw[hmap];exact here_erase HX1.out.here k) HG2.out (.inl rfl)
      rw[hmap] at r1
      refine⟨by rw[HR.out];rfl,?_,HF1.out.transG (frm_sys4 r2)⟩
      rw[HR.out]
      refine r1.mono fun j hj => ?_
      have hz1:=HF1.out.size
      have hz2:=HG2.out.size
      rcases hj with (hj | ⟨ha,hb⟩) | ⟨ha,hb⟩
      · exact .inl hj
      · exact .inr ⟨ha,by simp[World.setCell];omega⟩
      · exact .inr ⟨by omega,by simp[World.setCell];exact hb⟩
end Go.Proofs.YtaplpeoikebedaaGreatDoor.PoolE
