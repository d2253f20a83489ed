/- Joined texts: FwdB, PageQ, PageV. No condition but what each says. -/
import Derived.Test.YtaplpeoikebedaaGreatDoorY29
import Derived.Test.YtaplpeoikebedaaGreatDoorY27
import Derived.Deep.RegionLaw
set_option maxHeartbeats 8000000
set_option maxRecDepth 100000
set_option linter.unusedVariables false
set_option linter.unusedSimpArgs false
namespace Go.Proofs.YtaplpeoikebedaaGreatDoor.FwdB
open Go.RowKit Go.Maps YtaplpeoikebedaaGreatDoorW.PrintWords YtaplpeoikebedaaGreatDoorW.PrintLast YtaplpeoikebedaaGreatDoorW.PrintMore
open See Mem Page Disk DiskN DiskW RecD Dirty Wal WalF SysD SysM Pager StoreD StoreF StoreI StoreJ RoomD TransT LockT LockU SpaceT WaitT FwdM FwdP FwdC FwdE FwdN
attribute [local go_sem] max2_imax min2_imin max_two min_two
theorem neq_same (a:Addr)(w:World):(binOp .neq 37 (.iface 333 (.pointer (some a))) (.iface 333 (.pointer (some a)))).run Tryz.prog w = .ok (.bool false) w:=by
  obtain⟨i,hi,hc⟩:=Option.map_eq_some_iff.1 infoTES
  obtain⟨j,hj,_⟩:=Option.map_eq_some_iff.1 infoTES2
  simp only[binOp]
  simp[Op.equal,Op.maxDepth,run_equalIn_iface_ptr_same w 9998 a Tryz.underlying37 Tryz.underlying333 hi hc hj]
theorem ts_len {F:FS}(h:TOk F):(F.ts.length:Int)≤F.most:=by
  have h1:(F.ts.map (·.id)).Nodup:=by
    have:=h.rise
    unfold kvT Rising at this
    rw[List.pairwise_map] at this
    unfold List.Nodup
    rw[List.pairwise_map]
    exact this.imp fun hab e=>by simp at hab;omega
  have h2:=nodup_sub (b:=(List.range F.most.toNat).map fun k:Nat=>(k:Int)+1) h1 fun x hx=>by
    obtain⟨t,ht,rfl⟩:=List.mem_map.1 hx
    have:=h.ids t ht
    exact List.mem_map.2 ⟨(t.id - 1).toNat,List.mem_range.2 (by omega),by omega⟩
  have:=h.most
  simp at h2
  omega
theorem room_top {N m:Nat}{F:FS}(h:GOk N m F):F.free≤1073741824∧F.kept≤1073741824:=by
  obtain⟨h1,h2,h3⟩:=h.room
  have h4:=h.lok.base
  have h5:F.S.l.room≤1073741824:=by
    unfold Lg.room Lg.last
    omega
  omega
def BeginPost (a:Nat→Addr)(M:Nat→Prop)(sp lp pp dp qp mp:Nat)(blocks frames:Int)(F:FS)(n:Int)(w:World)(e:Ending)(w':World):Prop:=
  (3≤F.free∧e = .returned .nilIface∧FwPost M sp lp pp dp qp mp blocks frames (beginF F n) w w')∨(F.free<3∧e = .returned (errv a (some 8))∧FwPost M sp lp pp dp qp mp blocks frames F w w')
theorem begin_calls (a:Nat→Addr)(M:Nat→Prop)(sp lp pp dp qp mp:Nat)(blocks frames:Int)(F:FS)(n:Int)(N m:Nat)(ch:Int→List Int)(kp:Int→Int)(w:World)(h:FwM M w sp lp pp dp qp mp blocks frames F)(hok:FOk N m ch kp F)(hs:SentsAll w a)(hO:OutAll M a)(h0:0≤n)(h1:n<F.sess)(h2:F.sess≤1000)(hof:F.of n=0)(hm:F.most<60000) :
    Calls Tryz.prog 20 #[.pointer (some ⟨sp,0,none⟩),.int .i64 n] w (BeginPost a M sp lp pp dp qp mp blocks frames F n w):=by
  have HC:=Aside0.mk (called_none M sp lp pp dp qp mp blocks frames F n w h h0 h1 h2 (by rw[hof];exact tx_none hok.t) a (hs.k _ (by decide)) hok.t.rise)
  have HF:=Aside0.mk h
  have HOK:=Aside0.mk hok
  have HS:=Aside0.mk hs
  have HO:=Aside0.mk hO
  have HOF:=Aside0.mk hof
  have HM:=Aside0.mk (And.intro hm hok.t.most.1)
  have HN:=Aside0.mk (And.intro h0 (And.intro h1 h2))
  have hspl:sp<w.heap.size:=by obtain⟨kv,tv,b1,_⟩:=h.box;exact heap_lt b1
  clear h hok hs hO hof hm h0 h1 h2
  go_enter Tryz.func20,Tryz.ntmps20
  go_wp2_with fail
  refine HC.out.mono ?_
  rintro e w1 ⟨rfl,hb⟩
  have hbW:=below_alloc hb z4
  obtain⟨W,hW⟩ : ∃W,w1.alloc z4=W:=⟨_,rfl⟩
  have hg12:(w1.alloc z4).cell? ⟨1,0,none⟩=some (.iface 333 (.pointer (some (a 12)))):=(HS.out.below hbW).cell 12 (by decide)
  have hg8:(w1.alloc z4).cell? ⟨2,0,none⟩=some (.iface 333 (.pointer (some (a 8)))):=(HS.out.below hbW).cell 8 (by decide)
  have he:=neq_same (a 12) (w1.alloc z4)
  have HFW:=Aside0.mk (HF.out.below hbW)
  obtain⟨_,_,k4,_,_,_,k10,k11⟩:=HFW.out.cells
  have HBW:=Aside0.mk hbW
  have hsW:sp<w1.heap.size:=by have:=hb.size;omega
  have HWE:=Aside0.mk hW
  simp only[txV,tx0,z4,errv] at *
  clear hb hbW hW
  go_wp2_with fail
  refine (free_space qp F.free F.kept _ HFW.out.room).mono ?_
  rintro e w' ⟨rfl,rfl⟩
  have HSW:=Aside0.mk (HS.out.below HBW.out)
  by_cases hfr:F.free<3
  · have HR:=Aside0.mk (FwPost.back (FwPost.refl HFW.out) HBW.out)
    have HFR:=Aside0.mk hfr
    go_wp2_with fail
    go_ret
    exact .inr ⟨HFR.out,rfl,HR.out⟩
  · have HFR:=Aside0.mk hfr
    obtain⟨cs,tv,htx,hput⟩:=FwM.txs HFW.out HOK.out.t.rise
    have HTX:=Aside0.mk htx
    have HPUT:=Aside0.mk hput
    clear htx hput
    go_wp2_with fail
    refine (tbegin_calls M sp 8 118 cs tv F.ts F.most _ HTX.out (fun t ht=>(HOK.out.t.ids t ht).2) (by have:=ts_len HOK.out.t;have:=HOK.out.t.most;omega) ⟨HM.out.2,HM.out.1⟩).mono ?_
    rintro e w2 ⟨rfl,hpost⟩
    have HP2:=Aside0.mk (HPUT.out _ _ _ (by omega) hpost)
    obtain⟨v2,ht2,hf2⟩:=hpost
    have HRS:=Aside0.mk ht2.rise
    clear ht2
    have HOF2:=Aside0.mk (OfM.frm HFW.out.of hf2 (by decide))
    have HS2:=Aside0.mk (SentsAll.kp HSW.out HP2.out.2 HO.out)
    obtain⟨_,_,j4,_,_,_,j10,j11⟩:=HP2.out.1.cells
    clear hf2 HTX HPUT
    obtain⟨lv,hlg⟩:=HP2.out.1.sys.log
    have HLG:=Aside0.mk hlg
    obtain⟨e1,e2,e3,_⟩:=pg_append HOK.out.g.pg (r:=recBegin (F.most+1)) (recBegin_ok (by have:=HM.out;omega) (by have:=HM.out;omega)) (by have:=HOK.out.g.room;omega) HOK.out.g.fit
    have HE:=Aside0.mk (And.intro e1 (And.intro e2 e3))
    clear hlg e1 e2 e3 he hg12 hg8
    go_wp2_with fail
    refine (append_log a _ lp dp lv F.S.l (recBegin (F.most+1)) _ (HS2.out.k _ (by decide)) HLG.out).mono ?_
    rintro e w3 ⟨rfl,v3,hl3,hf3⟩
    rw[HE.out.2.2] at hl3
    rw[HE.out.1,HE.out.2.1,show errv a none = .nilIface from rfl]
    have HP3:=Aside0.mk (FwM.lg HP2.out.1 ⟨v3,hl3⟩ hf3)
    have HOF3:=Aside0.mk (OfM.frm HOF2.out hf3 (by decide))
    obtain⟨_,_,i4,_,_,_,i10,i11⟩:=HP3.out.1.cells
    clear hl3 hf3
    go_wp2_with fail
    refine (ask_space _ qp F.free F.kept 1 2 _ HP3.out.1.room HP3.out.1.low.2.1 (by omega) (by omega) (by omega) (room_top HOK.out.g).1 HOK.out.g.room.2.1 (room_top HOK.out.g).2).mono ?_
    rintro e w4 ⟨rfl,hs4,hf4⟩
    have HP4:=Aside0.mk (FwM.spc HP3.out.1 hs4 hf4)
    have HOF4:=Aside0.mk (OfM.frm HOF3.out hf4 (by decide))
    obtain⟨_,_,_,_,_,_,_,i11⟩:=HP4.out.1.cells
    clear hs4 hf4
    obtain⟨n0,D,hown,hn0,hat⟩:=HOF4.out
    have HOWN:=Aside0.mk hown
    have HAT:=Aside0.mk hat
    have hn1:n0<60000:=by have:=HM.out;omega
    have HN0:=Aside0.mk hn0
    have HWF:=Aside0.mk (wf64 (n:=n) (by have:=HN.out;omega) (by have:=HN.out;omega))
    have HWV:=Aside0.mk (wf64 (n:=F.most+1) (by have:=HM.out;omega) (by have:=HM.out;omega))
    clear hown hat hn0
    go_wp2_with (first | (at_mapUpdate;refine wpList_mapUpdate_own _ rfl _ _ _ 116 rfl 3 3 (int_keyed Tryz.underlying3) Tryz.underlying116 _ mp n0 D rfl HOWN.out (by unfold maxLen;omega) _ _ (.int .i64 n) rfl rfl (keyOf_int_mk Tryz.underlying3 HWF.out) (.lit (.int .i64 (F.most+1))) [] (plainElem_int Tryz.underlying3 HWV.out) ?_;intro w5 hown5 hg5))
    have HOF5:=Aside0.mk (ofm_put (m:=F.most+1) HOWN.out HAT.out hown5 (by have:=HN0.out;omega))
    have HP5:=Aside0.mk (FwM.mp_ HP4.out.1 HOF5.out hg5)
    clear hown5 hg5 i11
    obtain⟨cs5,tv5,htx,hput⟩:=FwM.txs HP5.out.1 HRS.out
    have HTX:=Aside0.mk htx
    have HPUT:=Aside0.mk hput
    clear htx hput
    refine (tnote_calls _ sp 8 118 cs5 tv5 (F.ts++[⟨F.most+1,0,0,0⟩]) (F.most+1) (F.most+1) (F.S.l.last+1) 0 _ HTX.out ((thas_iff HRS.out _).2 ⟨_,List.mem_append_right _ (List.mem_singleton.2 rfl),rfl⟩)).mono ?_
    rintro e w6 ⟨rfl,hpost⟩
    have HP6:=Aside0.mk (HPUT.out _ _ _ (Int.le_refl _) hpost)
    clear hpost HTX HPUT
    have HPA:=Aside0.mk (FwPost.back (FwPost.trans HP2.out fun _=>FwPost.trans HP3.out fun _=>FwPost.trans HP4.out fun _=>FwPost.trans HP5.out fun _=>HP6.out) HBW.out)
    have HTS:=Aside0.mk (begin_ts (ts:=F.ts) (m:=F.most) (l:=F.S.l.last+1) fun t ht=>(HOK.out.t.ids t ht).2)
    go_wp2_with fail
    go_ret
    refine .inl ⟨by have:=HFR.out;omega,rfl,?_⟩
    have h:=HPA.out
    simp only[HTS.out] at h
    exact h
end Go.Proofs.YtaplpeoikebedaaGreatDoor.FwdB
namespace Go.Proofs.YtaplpeoikebedaaGreatDoor.PageQ
open Go.RowKit YtaplpeoikebedaaGreatDoorW.PrintWords YtaplpeoikebedaaGreatDoorW.PrintLast YtaplpeoikebedaaGreatDoorW.PrintMore
open See Mem Clone Go.Proofs.YtaplpeoikebedaaGreatDoor.Cell Page PageB PageR PageL Dirty Dirty2 SysD Rw Del Ins2 StoreD PageM PageO
attribute [local go_sem] max2_imax min2_imin max_two min_two
theorem eremove_calls (lsn:Int)(v:Value)(es:List (Int×Int))(n:Int)(w:World)(hp:P2 w 169 v es)(hr:Rising es) :
    Calls Tryz.prog 186 #[.agg #[.int .i64 lsn,v],.int .i64 n] w fun e w' => ∃v',e = .returned (.tuple #[.agg #[.int .i64 lsn,v'],.bool (has es n)])∧P2 w' 169 v' (dropT es n)∧Below w.heap.size w w':=by
  have HP:=Aside0.mk hp
  have HR:=Aside0.mk hr
  have HFIND:=Aside0.mk (fun (W:World) (hb:Below w.heap.size w W)=>efind_calls lsn v es n W (hp.below hb) hr)
  obtain⟨A,cap,hv,_⟩:=ow_slice hp.1
  obtain⟨l,hl⟩ : ∃l,es.length=l:=⟨_,rfl⟩
  have HL:=Aside0.mk hl
  have hl5:l≤100000:=by rw[←hl];exact hp.2
  rw[hl] at hv
  have hl':=hl
  clear hp hr hl
  subst hv
  obtain⟨k,hk⟩ : ∃k:Nat,pos es n=k:=⟨_,rfl⟩
  have HK:=Aside0.mk hk
  cases hh:has es n with
  | false=>
    have HA:=Aside0.mk (show dropT es n=es by unfold dropT;rw[hh];rfl)
    have HFD':=Aside0.mk (fun (W:World) (hb:Below w.heap.size w W)=>by have h:=HFIND.out W hb;rw[hh,hk] at h;exact h)
    clear hh hk HFIND
    go_enter Tryz.func186,Tryz.ntmps186
    go_wp2_with fail
    refine (HFD'.out _ (by repeat (first | exact Below.refl _ _ | apply below_drew1 | apply below_alloc))).mono ?_
    rintro e w1 ⟨rfl,hb⟩
    have HB:=Aside0.mk (below_step (show Below w.heap.size w ((w.alloc (.cells #[.int .i64 lsn,.slice A l cap] 74)).alloc (.cells #[.int .i64 0,.slice none 0 0] 74)) by repeat (first | exact Below.refl _ _ | apply below_alloc)) hb)
    have HBX:=Aside0.mk (show w1.heap[w.heap.size]? = some (.cells #[.int .i64 lsn,.slice A l cap] 74 (0,0)) from (hb.block w.heap.size (by show w.heap.size<((w.heap.push _).push _).size;rw[Array.size_push,Array.size_push];omega)).trans ((Below.heap_alloc _ _ _ (by show w.heap.size<(w.heap.push _).size;rw[Array.size_push];omega)).trans (heap_alloc_new w _)))
    have HBR:=Aside0.mk (show w1.heap[w.heap.size+1]? = some (.cells #[.int .i64 0,.slice none 0 0] 74 (0,0)) from (hb.block (w.heap.size+1) (by simp)).trans (by have:=heap_alloc_new (w.alloc (.cells #[.int .i64 lsn,.slice A l cap] 74)) (.cells #[.int .i64 0,.slice none 0 0] 74);simpa using this))
    obtain⟨q0,q1,f0,f1⟩:=pg_cells HBX.out
    have hz1:w.heap.size<w1.heap.size:=heap_lt HBX.out
    clear hb
    go_wp2_with fail
    have HCL1:=Aside0.mk (fun (W:World) (hb:Below w1.heap.size w1 W)=>clone_p2 HP.out HB.out hb)
    have HCL2:=Aside0.mk (fun (W:World) (hb:Below w1.heap.size w1 W) (hy:W.heap[w1.heap.size]? = some (.cells #[.int .i64 0,.slice none 0 0] 74 (0,0)))=>clone_p2_keep HP.out HB.out hb hy)
    rw[HL.out] at HCL1 HCL2
    go_region_law (first
      | (go_simp;go_at_call 146;refine (HCL2.out _ (by repeat (first | exact Below.refl _ _ | apply below_drew1 | apply below_alloc)) (by exact heap_alloc_new w1 _)).mono ?_;rintro e w2 ⟨A2,c2,rfl,hp2,hb2,hbo⟩;obtain⟨o0,o1,g0,g1⟩:=pg_cells hbo;obtain⟨k0,k1,l0,l1⟩:=pg_cells ((hb2.block _ hz1).trans HBX.out);have hlt2:=heap_lt hbo;have hlt3:=Nat.lt_of_lt_of_le hz1 hb2.size)
      | (go_simp;go_at_call 146;refine (HCL1.out _ (by repeat (first | exact Below.refl _ _ | apply below_drew1 | apply below_alloc))).mono ?_;rintro e w2 ⟨A2,c2,rfl,hp2,hb2⟩;obtain⟨k0,k1,l0,l1⟩:=pg_cells ((hb2.block _ hz1).trans HBX.out);have hlt2:=Nat.lt_of_lt_of_le hz1 hb2.size))
    all_goals
      obtain⟨r0,r1,s0,s1⟩:=pg_cells ((hb2.block _ (heap_lt HBR.out)).trans HBR.out)
      have hrl:=heap_lt HBR.out
      have HP2:=Aside0.mk hp2
      have HB2:=Aside0.mk hb2
      have hrl2:=Nat.lt_of_lt_of_le hrl hb2.size
      have hne1:w1.heap.size≠w.heap.size+1:=by omega
      have hne2:w.heap.size+1≠w1.heap.size:=by omega
      have t1:tag w2 (w.heap.size+1)=74:=tag_of ((hb2.block _ (heap_lt HBR.out)).trans HBR.out)
      have HBB:=Aside0.mk (below_step HB.out hb2)
      clear k0 k1 l0 l1 hp2 q0 q1 f0 f1 hb2
      go_wp2_with fail
      refine bodyPost_ret (v:=.tuple #[.agg #[.int .i64 lsn,.slice A2 l c2],.bool false]) ?_ ?_ ?_
      case refine_2=>rfl
      case refine_3=>
        refine⟨.slice A2 l c2,rfl,⟨?_,?_⟩,?_⟩
        · rw[HA.out,HL.out]
          refine ow_frm (T:=[74]) (M:=fun _=>True) (ow_base HP2.out (Nat.zero_le _)) ?_ (by decide)
          repeat (first | exact Frm.refl _ _ _ | apply Frm.alloc | apply Frm.drew | refine Frm.set ?_ (fun _=>⟨trivial,by first | (rw[t1];exact List.mem_cons_self) | (rw[tag_of hbo];exact List.mem_cons_self)⟩) _)
        · rw[HA.out,HL.out];exact hl5
        · repeat (first | exact HBB.out | apply below_drew1 | apply below_alloc | refine Below.setCell ?_ (by first | omega | (show w.heap.size≤w.heap.size+1;omega) | (show w.heap.size≤w1.heap.size;omega)) _)
      simp[results,Tryz.results186,go_sem,r0,r1,s0,s1,hne1,hne2,hrl2]
  | true=>
    have HA:=Aside0.mk (show dropT es n=es.eraseIdx k by unfold dropT;rw[hh,hk];rfl)
    have hkl:k<l:=by
      obtain⟨f,hf⟩:=pos_has hh
      rw[←hk,←hl']
      exact (List.getElem?_eq_some_iff.1 hf).1
    have hlt5:(dropT es n).length=l - 1:=by rw[HA.out,List.length_eraseIdx,if_pos (by rw[hl'];exact hkl),hl']
    have HLN:=Aside0.mk hlt5
    have HFD':=Aside0.mk (fun (W:World) (hb:Below w.heap.size w W)=>by have h:=HFIND.out W hb;rw[hh,hk] at h;exact h)
    clear hh hk HFIND
    go_enter Tryz.func186,Tryz.ntmps186
    go_wp2_with fail
    refine (HFD'.out _ (by repeat (first | exact Below.refl _ _ | apply below_drew1 | apply below_alloc))).mono ?_
    rintro e w1 ⟨rfl,hb⟩
    have HB:=Aside0.mk (below_step (show Below w.heap.size w ((w.alloc (.cells #[.int .i64 lsn,.slice A l cap] 74)).alloc (.cells #[.int .i64 0,.slice none 0 0] 74)) by repeat (first | exact Below.refl _ _ | apply below_alloc)) hb)
    have HBX:=Aside0.mk (show w1.heap[w.heap.size]? = some (.cells #[.int .i64 lsn,.slice A l cap] 74 (0,0)) from (hb.block w.heap.size (by show w.heap.size<((w.heap.push _).push _).size;rw[Array.size_push,Array.size_push];omega)).trans ((Below.heap_alloc _ _ _ (by show w.heap.size<(w.heap.push _).size;rw[Array.size_push];omega)).trans (heap_alloc_new w _)))
    have HBR:=Aside0.mk (show w1.heap[w.heap.size+1]? = some (.cells #[.int .i64 0,.slice none 0 0] 74 (0,0)) from (hb.block (w.heap.size+1) (by simp)).trans (by have:=heap_alloc_new (w.alloc (.cells #[.int .i64 lsn,.slice A l cap] 74)) (.cells #[.int .i64 0,.slice none 0 0] 74);simpa using this))
    obtain⟨q0,q1,f0,f1⟩:=pg_cells HBX.out
    have hz1:w.heap.size<w1.heap.size:=heap_lt HBX.out
    clear hb
    go_wp2_with fail
    have HCL1:=Aside0.mk (fun (W:World) (hb:Below w1.heap.size w1 W)=>clone_p2 HP.out HB.out hb)
    have HCL2:=Aside0.mk (fun (W:World) (hb:Below w1.heap.size w1 W) (hy:W.heap[w1.heap.size]? = some (.cells #[.int .i64 0,.slice none 0 0] 74 (0,0)))=>clone_p2_keep HP.out HB.out hb hy)
    rw[HL.out] at HCL1 HCL2
    go_region_law (first
      | (go_simp;go_at_call 146;refine (HCL2.out _ (by repeat (first | exact Below.refl _ _ | apply below_drew1 | apply below_alloc)) (by exact heap_alloc_new w1 _)).mono ?_;rintro e w2 ⟨A2,c2,rfl,hp2,hb2,hbo⟩;obtain⟨o0,o1,g0,g1⟩:=pg_cells hbo;obtain⟨k0,k1,l0,l1⟩:=pg_cells ((hb2.block _ hz1).trans HBX.out);have hlt2:=heap_lt hbo;have hlt3:=Nat.lt_of_lt_of_le hz1 hb2.size)
      | (go_simp;go_at_call 146;refine (HCL1.out _ (by repeat (first | exact Below.refl _ _ | apply below_drew1 | apply below_alloc))).mono ?_;rintro e w2 ⟨A2,c2,rfl,hp2,hb2⟩;obtain⟨k0,k1,l0,l1⟩:=pg_cells ((hb2.block _ hz1).trans HBX.out);have hlt2:=Nat.lt_of_lt_of_le hz1 hb2.size))
    all_goals
      have t1:tag w2 (w.heap.size+1)=74:=tag_of ((hb2.block _ (heap_lt HBR.out)).trans HBR.out)
      have hbr2:=(hb2.block _ (heap_lt HBR.out)).trans HBR.out
      have hrl:=heap_lt HBR.out
      have hrl2:=Nat.lt_of_lt_of_le hrl hb2.size
      have HBB:=Aside0.mk (below_step HB.out hb2)
      clear k0 k1 l0 l1 q0 q1 f0 f1
      first
        | (obtain⟨wx,bo,HW,HBO⟩ : ∃(wx:World) (bo:Nat),Aside0 (wx=(w2.setCell ⟨w1.heap.size,0,none⟩ (.int .i64 lsn)).setCell ⟨w1.heap.size,1,none⟩ (.slice A2 l c2))∧Aside0 (bo=w1.heap.size):=⟨_,_,⟨rfl⟩,⟨rfl⟩⟩
           have hpo:wx.heap[bo]? = some (.cells #[.int .i64 lsn,.slice A2 l c2] 74 (0,0)):=by rw[HW.out,HBO.out];exact heap_setCell_same _ _ _ _ _ _ (heap_setCell_same _ _ _ _ _ _ hbo)
           have hne:bo≠w.heap.size+1:=by have:=HBO.out;omega
           have hpr:wx.heap[w.heap.size+1]? = some (.cells #[.int .i64 0,.slice none 0 0] 74 (0,0)):=by rw[HW.out,Below.heap_setCell _ _ _ _ (by have:=HBO.out;show w.heap.size+1≠w1.heap.size;omega),Below.heap_setCell _ _ _ _ (by have:=HBO.out;show w.heap.size+1≠w1.heap.size;omega)];exact hbr2
           have hfr:Frm [74] (fun _=>True) w2 wx:=by rw[HW.out];exact ((Frm.refl _ _ w2).set (fun _=>⟨trivial,by rw[tag_of hbo];exact List.mem_cons_self⟩) _).set (fun _=>⟨trivial,by rw[tag_of hbo];exact List.mem_cons_self⟩) _
           have hbw:Below w.heap.size w wx:=by rw[HW.out];exact (HBB.out.setCell (by show w.heap.size≤w1.heap.size;omega) _).setCell (by show w.heap.size≤w1.heap.size;omega) _
           rw[←HW.out,←HBO.out])
        | (obtain⟨wx,bo,HW,HBO⟩ : ∃(wx:World) (bo:Nat),Aside0 (wx=w2.alloc (.cells #[.int .i64 lsn,.slice A2 l c2] 74))∧Aside0 (bo=w2.heap.size):=⟨_,_,⟨rfl⟩,⟨rfl⟩⟩
           have hpo:wx.heap[bo]? = some (.cells #[.int .i64 lsn,.slice A2 l c2] 74 (0,0)):=by rw[HW.out,HBO.out];exact heap_alloc_new _ _
           have hne:bo≠w.heap.size+1:=by have:=HBO.out;omega
           have hpr:wx.heap[w.heap.size+1]? = some (.cells #[.int .i64 0,.slice none 0 0] 74 (0,0)):=by rw[HW.out];exact (Below.heap_alloc _ _ _ hrl2).trans hbr2
           have hfr:Frm [74] (fun _=>True) w2 wx:=by rw[HW.out];exact (Frm.refl _ _ w2).alloc _
           have hbw:Below w.heap.size w wx:=by rw[HW.out];exact below_alloc HBB.out _
           rw[←HW.out,←HBO.out])
    all_goals
      have HROW:=Aside0.mk (ow_frm (T:=[74]) (ow_base hp2 (Nat.le_trans HB.out.size (Nat.le_refl _))) hfr (by decide))
      have HBW:=Aside0.mk hbw
      have HPR:=Aside0.mk hpr
      have HPO:=Aside0.mk hpo
      obtain⟨o0',o1',g0',g1'⟩:=pg_cells hpo
      obtain⟨g,cg,hgv,_,_⟩:=HROW.out.form (by omega)
      injection hgv with hgv1 hgv2 hgv3
      subst hgv1
      clear hp2 hb2 hfr hbw hpr hpo hbr2 t1 hgv2 hgv3
      have hbl:=HROW.out
      obtain⟨_,cg2,hgc⟩:=ow_block hbl (show (Value.slice (some ⟨g,0,none⟩) l c2).ownBlock=some g from rfl)
      have hgo:g≠bo:=fun e=>by
        have h1:=HPO.out
        rw[←e,hgc] at h1
        injection h1 with h1;injection h1 with _ h1
        exact absurd h1 (by decide)
      have hgr:g≠w.heap.size+1:=fun e=>by
        have h1:=HPR.out
        rw[←e,hgc] at h1
        injection h1 with h1;injection h1 with _ h1
        exact absurd h1 (by decide)
      have hge:=(ow_block hbl (show (Value.slice (some ⟨g,0,none⟩) l c2).ownBlock=some g from rfl)).1
      have HROW2:=Aside0.mk hbl
      have HGO:=Aside0.mk hgo
      have HGR:=Aside0.mk hgr
      have HGE:=Aside0.mk hge
      have HNE:=Aside0.mk hne
      have hbe:w.heap.size≤bo:=by have:=HBO.out;have:=HB.out.size;omega
      clear hbl hgc hgo hgr hge hne
      go_wp2_with fail
      have hj1:(k:Int)+1=((k+1:Nat):Int):=by omega
      rw[hj1]
      clear hj1
      refine (del_entries w.heap.size g l c2 k (k+1) (cells2 es) _ HROW2.out (cells2_one es) hkl rfl).mono ?_
      rintro e2 w4 ⟨rfl,ho,hg,hz⟩
      have hpo4:=(hg.block bo (heap_lt HPO.out) (fun e=>HGO.out (by injection e with e;exact e.symm))).trans HPO.out
      have hpr4:=(hg.block (w.heap.size+1) (heap_lt HPR.out) (fun e=>HGR.out (by injection e with e;exact e.symm))).trans HPR.out
      obtain⟨u0,u1,v0,v1⟩:=pg_cells hpo4
      obtain⟨x0,x1,y0,y1⟩:=pg_cells hpr4
      have HO4:=Aside0.mk ho
      have HB4:=Aside0.mk (show Below w.heap.size w w4 from HBW.out.grown hg HBW.out.size (fun j hj=>by injection hj with hj;rw[←hj];exact HGE.out))
      have t4:=tag_of hpo4
      have t5:=tag_of hpr4
      have hne3:=HNE.out
      have hne4:w.heap.size+1≠bo:=fun e=>HNE.out e.symm
      clear ho hg hz hpo4 hpr4 o0' o1' g0' g1'
      go_wp2_with fail
      refine bodyPost_ret (v:=.tuple #[.agg #[.int .i64 lsn,.slice (some ⟨g,0,none⟩) (l - 1) c2],.bool true]) ?_ ?_ ?_
      case refine_2=>rfl
      case refine_3=>
        refine⟨.slice (some ⟨g,0,none⟩) (l - 1) c2,rfl,⟨?_,?_⟩,?_⟩
        · rw[HLN.out,HA.out,cells2_erase es k (by rw[HL.out];exact hkl)]
          refine ow_frm (T:=[74]) (M:=fun _=>True) (ow_base HO4.out (Nat.zero_le _)) ?_ (by decide)
          repeat (first | exact Frm.refl _ _ _ | apply Frm.alloc | apply Frm.drew | refine Frm.set ?_ (fun _=>⟨trivial,by first | (rw[t4];exact List.mem_cons_self) | (rw[t5];exact List.mem_cons_self)⟩) _)
        · rw[HLN.out];omega
        · repeat (first | exact HB4.out | apply below_drew1 | apply below_alloc | refine Below.setCell ?_ (by first | exact hbe | (show w.heap.size≤w.heap.size+1;omega)) _)
      simp[results,Tryz.results186,go_sem,x0,x1,y0,y1,u0,u1,hne3,hne4]
end Go.Proofs.YtaplpeoikebedaaGreatDoor.PageQ
namespace Go.Proofs.YtaplpeoikebedaaGreatDoor.PageV
open Go.RowKit YtaplpeoikebedaaGreatDoorW.PrintWords YtaplpeoikebedaaGreatDoorW.PrintLast YtaplpeoikebedaaGreatDoorW.PrintMore
open See Mem Clone Go.Proofs.YtaplpeoikebedaaGreatDoor.Cell Page PageB PageR PageL Dirty Dirty2 SysD Rw Del Ins2 StoreD PageM PageO
attribute [local go_sem] max2_imax min2_imin max_two min_two
theorem putE_has {es:List (Int×Int)}{n v:Int}{k:Nat}(hk:pos es n=k)(h:has es n=true):putE es n v=es.set k (n,v)∧k<es.length:=by
  obtain⟨f,hf⟩:=pos_has h
  rw[hk] at hf
  exact⟨by unfold putE;rw[if_pos h,hk],(List.getElem?_eq_some_iff.1 hf).1⟩
theorem putE_not {es:List (Int×Int)}{n v:Int}{k:Nat}(hk:pos es n=k)(h:has es n=false):putE es n v=es.take k++(n,v) :: es.drop k∧k≤es.length:=by
  refine⟨by unfold putE addT;rw[h,hk];rfl,by rw[←hk];exact pos_le es n⟩
theorem cells2_set (es:List (Int×Int))(k:Nat)(n v:Int)(f:Int)(h:es[k]? = some (n,f)):cells2 (es.set k (n,v))=setL (cells2 es) (k*2+1) [.int .i64 v]:=by
  induction es generalizing k with
  | nil=>simp at h
  | cons x es ih=>
    cases k with
    | zero=>
      simp at h
      subst h
      simp[cells2,setL]
    | succ k=>
      have:=ih k (by simpa using h)
      rw[List.set_cons_succ]
      unfold cells2 at this ⊢
      simp only[List.flatMap_cons]
      rw[this,show (k+1)*2+1=k*2+1+1+1 from by omega]
      simp[setL]
theorem eput_has (lsn:Int)(v:Value)(es:List (Int×Int))(n x:Int)(w:World)(hp:P2 w 169 v es)(hr:Rising es)(hh:has es n=true) :
    Calls Tryz.prog 187 #[.agg #[.int .i64 lsn,v],.int .i64 n,.int .i64 x] w fun e w' => ∃v',e = .returned (.tuple #[.agg #[.int .i64 lsn,v'],.bool true])∧P2 w' 169 v' (putE es n x)∧Below w.heap.size w w':=by
  have HP:=Aside0.mk hp
  have HR:=Aside0.mk hr
  have HFIND:=Aside0.mk (fun (W:World) (hb:Below w.heap.size w W)=>efind_calls lsn v es n W (hp.below hb) hr)
  obtain⟨A,cap,hv,_⟩:=ow_slice hp.1
  obtain⟨l,hl⟩ : ∃l,es.length=l:=⟨_,rfl⟩
  have HL:=Aside0.mk hl
  have hl5:l≤100000:=by rw[←hl];exact hp.2
  rw[hl] at hv
  have hl':=hl
  clear hp hr hl
  subst hv
  obtain⟨k,hk⟩ : ∃k:Nat,pos es n=k:=⟨_,rfl⟩
  have HK:=Aside0.mk hk
  have HA:=Aside0.mk (putE_has (v:=x) hk hh).1
  have hkl:k<l:=by rw[←hl'];exact (putE_has (v:=x) hk hh).2
  have HLN:=Aside0.mk (show (putE es n x).length=l by rw[HA.out,List.length_set,hl'])
  have HNF:=Aside0.mk (show ∃f,es[k]? = some (n,f) by
    obtain⟨f,hf⟩:=pos_has hh
    rw[hk] at hf
    exact⟨f,hf⟩)
  have HFD':=Aside0.mk (fun (W:World) (hb:Below w.heap.size w W)=>by have h:=HFIND.out W hb;rw[hh,hk] at h;exact h)
  clear hh hk HFIND
  go_enter Tryz.func187,Tryz.ntmps187
  go_wp2_with fail
  refine (HFD'.out _ (by repeat (first | exact Below.refl _ _ | apply below_drew1 | apply below_alloc))).mono ?_
  rintro e w1 ⟨rfl,hb⟩
  have HB:=Aside0.mk (below_step (show Below w.heap.size w ((w.alloc (.cells #[.int .i64 lsn,.slice A l cap] 74)).alloc (.cells #[.int .i64 0,.slice none 0 0] 74)) by repeat (first | exact Below.refl _ _ | apply below_alloc)) hb)
  have HBX:=Aside0.mk (show w1.heap[w.heap.size]? = some (.cells #[.int .i64 lsn,.slice A l cap] 74 (0,0)) from (hb.block w.heap.size (by show w.heap.size<((w.heap.push _).push _).size;rw[Array.size_push,Array.size_push];omega)).trans ((Below.heap_alloc _ _ _ (by show w.heap.size<(w.heap.push _).size;rw[Array.size_push];omega)).trans (heap_alloc_new w _)))
  have HBR:=Aside0.mk (show w1.heap[w.heap.size+1]? = some (.cells #[.int .i64 0,.slice none 0 0] 74 (0,0)) from (hb.block (w.heap.size+1) (by simp)).trans (by have:=heap_alloc_new (w.alloc (.cells #[.int .i64 lsn,.slice A l cap] 74)) (.cells #[.int .i64 0,.slice none 0 0] 74);simpa using this))
  obtain⟨q0,q1,f0,f1⟩:=pg_cells HBX.out
  have hz1:w.heap.size<w1.heap.size:=heap_lt HBX.out
  clear hb
  go_wp2_with fail
  have HCL1:=Aside0.mk (fun (W:World) (hb:Below w1.heap.size w1 W)=>clone_p2 HP.out HB.out hb)
  have HCL2:=Aside0.mk (fun (W:World) (hb:Below w1.heap.size w1 W) (hy:W.heap[w1.heap.size]? = some (.cells #[.int .i64 0,.slice none 0 0] 74 (0,0)))=>clone_p2_keep HP.out HB.out hb hy)
  rw[HL.out] at HCL1 HCL2
  go_region_law (first
    | (go_simp;go_at_call 146;refine (HCL2.out _ (by repeat (first | exact Below.refl _ _ | apply below_drew1 | apply below_alloc)) (by exact heap_alloc_new w1 _)).mono ?_;rintro e w2 ⟨A2,c2,rfl,hp2,hb2,hbo⟩;obtain⟨o0,o1,g0,g1⟩:=pg_cells hbo;obtain⟨k0,k1,l0,l1⟩:=pg_cells ((hb2.block _ hz1).trans HBX.out);have hlt2:=heap_lt hbo;have hlt3:=Nat.lt_of_lt_of_le hz1 hb2.size)
    | (go_simp;go_at_call 146;refine (HCL1.out _ (by repeat (first | exact Below.refl _ _ | apply below_drew1 | apply below_alloc))).mono ?_;rintro e w2 ⟨A2,c2,rfl,hp2,hb2⟩;obtain⟨k0,k1,l0,l1⟩:=pg_cells ((hb2.block _ hz1).trans HBX.out);have hlt2:=Nat.lt_of_lt_of_le hz1 hb2.size))
  all_goals
    have t1:tag w2 (w.heap.size+1)=74:=tag_of ((hb2.block _ (heap_lt HBR.out)).trans HBR.out)
    have hbr2:=(hb2.block _ (heap_lt HBR.out)).trans HBR.out
    have hrl:=heap_lt HBR.out
    have hrl2:=Nat.lt_of_lt_of_le hrl hb2.size
    have HBB:=Aside0.mk (below_step HB.out hb2)
    clear k0 k1 l0 l1 q0 q1 f0 f1
    first
      | (obtain⟨wx,bo,HW,HBO⟩ : ∃(wx:World) (bo:Nat),Aside0 (wx=(w2.setCell ⟨w1.heap.size,0,none⟩ (.int .i64 lsn)).setCell ⟨w1.heap.size,1,none⟩ (.slice A2 l c2))∧Aside0 (bo=w1.heap.size):=⟨_,_,⟨rfl⟩,⟨rfl⟩⟩
         have hpo:wx.heap[bo]? = some (.cells #[.int .i64 lsn,.slice A2 l c2] 74 (0,0)):=by rw[HW.out,HBO.out];exact heap_setCell_same _ _ _ _ _ _ (heap_setCell_same _ _ _ _ _ _ hbo)
         have hne:bo≠w.heap.size+1:=by have:=HBO.out;omega
         have hpr:wx.heap[w.heap.size+1]? = some (.cells #[.int .i64 0,.slice none 0 0] 74 (0,0)):=by rw[HW.out,Below.heap_setCell _ _ _ _ (by have:=HBO.out;show w.heap.size+1≠w1.heap.size;omega),Below.heap_setCell _ _ _ _ (by have:=HBO.out;show w.heap.size+1≠w1.heap.size;omega)];exact hbr2
         have hfr:Frm [74] (fun _=>True) w2 wx:=by rw[HW.out];exact ((Frm.refl _ _ w2).set (fun _=>⟨trivial,by rw[tag_of hbo];exact List.mem_cons_self⟩) _).set (fun _=>⟨trivial,by rw[tag_of hbo];exact List.mem_cons_self⟩) _
         have hbw:Below w.heap.size w wx:=by rw[HW.out];exact (HBB.out.setCell (by show w.heap.size≤w1.heap.size;omega) _).setCell (by show w.heap.size≤w1.heap.size;omega) _
         rw[←HW.out,←HBO.out])
      | (obtain⟨wx,bo,HW,HBO⟩ : ∃(wx:World) (bo:Nat),Aside0 (wx=w2.alloc (.cells #[.int .i64 lsn,.slice A2 l c2] 74))∧Aside0 (bo=w2.heap.size):=⟨_,_,⟨rfl⟩,⟨rfl⟩⟩
         have hpo:wx.heap[bo]? = some (.cells #[.int .i64 lsn,.slice A2 l c2] 74 (0,0)):=by rw[HW.out,HBO.out];exact heap_alloc_new _ _
         have hne:bo≠w.heap.size+1:=by have:=HBO.out;omega
         have hpr:wx.heap[w.heap.size+1]? = some (.cells #[.int .i64 0,.slice none 0 0] 74 (0,0)):=by rw[HW.out];exact (Below.heap_alloc _ _ _ hrl2).trans hbr2
         have hfr:Frm [74] (fun _=>True) w2 wx:=by rw[HW.out];exact (Frm.refl _ _ w2).alloc _
         have hbw:Below w.heap.size w wx:=by rw[HW.out];exact below_alloc HBB.out _
         rw[←HW.out,←HBO.out])
  all_goals
    have HROW:=Aside0.mk (ow_frm (T:=[74]) (ow_base hp2 (Nat.le_trans HB.out.size (Nat.le_refl _))) hfr (by decide))
    have HBW:=Aside0.mk hbw
    have HPR:=Aside0.mk hpr
    have HPO:=Aside0.mk hpo
    obtain⟨o0',o1',g0',g1'⟩:=pg_cells hpo
    obtain⟨x0,x1,y0,y1⟩:=pg_cells hpr
    obtain⟨g,cg,hgv,_,_⟩:=HROW.out.form (by omega)
    injection hgv with hgv1 hgv2 hgv3
    subst hgv1
    have t4:=tag_of hpo
    have t5:=tag_of hpr
    clear hp2 hb2 hfr hbw hpr hpo hbr2 t1 hgv2 hgv3
    obtain⟨_,cg2,hgc⟩:=ow_block HROW.out (show (Value.slice (some ⟨g,0,none⟩) l c2).ownBlock=some g from rfl)
    have hgo:g≠bo:=fun e=>by
      have h1:=HPO.out
      rw[←e,hgc] at h1
      injection h1 with h1;injection h1 with _ h1
      exact absurd h1 (by decide)
    have hgr:g≠w.heap.size+1:=fun e=>by
      have h1:=HPR.out
      rw[←e,hgc] at h1
      injection h1 with h1;injection h1 with _ h1
      exact absurd h1 (by decide)
    have hog:bo≠g:=fun e=>hgo e.symm
    have hrg:w.heap.size+1≠g:=fun e=>hgr e.symm
    have hge:=(ow_block HROW.out (show (Value.slice (some ⟨g,0,none⟩) l c2).ownBlock=some g from rfl)).1
    have hbe:w.heap.size≤bo:=by have:=HBO.out;have:=HB.out.size;omega
    have hfz:wx.frozen? ⟨g,k*2+1,none⟩=false:=by simp[World.frozen?,hgc]
    obtain⟨ff,hff⟩:=HNF.out
    have HFF:=Aside0.mk hff
    have hcz:wx.cell? ⟨g,k*2+1,none⟩=some (.int .i64 ff):=by
      rw[HROW.out.cellAt _ (by omega)]
      exact (cells2_at es k _ hff).2
    have hkl2:(k:Int)<(l:Int):=by omega
    have hk0:(0:Int)≤(k:Int):=by omega
    have hne4:w.heap.size+1≠bo:=fun e=>hne e.symm
    obtain⟨ho,hgg⟩:=own_setCells [.int .i64 x] (k*2+1) wx _ HROW.out
    have HO4:=Aside0.mk (show (wx.setCell ⟨g,k*2+1,none⟩ (.int .i64 x)).ownsRow w.heap.size 169 2 (.slice (some ⟨g,0,none⟩) l c2) l (setL (cells2 es) (k*2+1) [.int .i64 x]) from ho)
    have t6:tag (wx.setCell ⟨g,k*2+1,none⟩ (.int .i64 x)) bo=74:=by rw[tag_eq (Below.heap_setCell _ _ _ _ hog)];exact t4
    have t7:tag (wx.setCell ⟨g,k*2+1,none⟩ (.int .i64 x)) (w.heap.size+1)=74:=by rw[tag_eq (Below.heap_setCell _ _ _ _ hrg)];exact t5
    have HB4:=Aside0.mk (show Below w.heap.size w (wx.setCell ⟨g,k*2+1,none⟩ (.int .i64 x)) from HBW.out.setCell hge _)
    clear hgc ho hgg hff t4 t5
    go_wp2_with fail
    refine bodyPost_ret (v:=.tuple #[.agg #[.int .i64 lsn,.slice (some ⟨g,0,none⟩) l c2],.bool true]) ?_ ?_ ?_
    case refine_2=>rfl
    case refine_3=>
      refine⟨.slice (some ⟨g,0,none⟩) l c2,rfl,⟨?_,?_⟩,?_⟩
      · rw[HLN.out,HA.out,cells2_set es k n x ff HFF.out]
        refine ow_frm (T:=[74]) (M:=fun _=>True) (ow_base HO4.out (Nat.zero_le _)) ?_ (by decide)
        repeat (first | exact Frm.refl _ _ _ | apply Frm.alloc | apply Frm.drew | refine Frm.set ?_ (fun _=>⟨trivial,by first | (rw[t6];exact List.mem_cons_self) | (rw[t7];exact List.mem_cons_self)⟩) _)
      · rw[HLN.out];omega
      · repeat (first | exact HB4.out | apply below_drew1 | apply below_alloc | refine Below.setCell ?_ (by first | exact hbe | exact hge | (show w.heap.size≤w.heap.size+1;omega)) _)
    simp[results,Tryz.results187,go_sem,x0,x1,y0,y1,o0',o1',hne,hne4,hgo,hgr,hog,hrg]
end Go.Proofs.YtaplpeoikebedaaGreatDoor.PageV
