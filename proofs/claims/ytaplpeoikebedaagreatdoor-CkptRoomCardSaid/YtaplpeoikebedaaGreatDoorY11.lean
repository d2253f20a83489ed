/- Joined texts: Wal, Rw. No condition but what each says. -/
import Derived.Test.YtaplpeoikebedaaGreatDoorY9
import Derived.Test.YtaplpeoikebedaaGreatDoorY10
import Derived.Test.YtaplpeoikebedaaGreatDoorY3
import Derived.Deep.RegionLaw
import Derived.Lib.SliceRun
set_option maxHeartbeats 8000000
set_option maxRecDepth 100000
set_option linter.unusedVariables false
set_option linter.unusedSimpArgs false
namespace Go.Proofs.YtaplpeoikebedaaGreatDoor.Wal
open Go.RowKit YtaplpeoikebedaaGreatDoorW.PrintWords YtaplpeoikebedaaGreatDoorW.PrintLast YtaplpeoikebedaaGreatDoorW.PrintMore
open See Mem Clone Go.Proofs.YtaplpeoikebedaaGreatDoor.Cell Page PageB PageR Disk DiskW DiskS RecD Rec RecC RecB Fill BlockB Pool3
attribute [local go_sem] max2_imax min2_imin max_two min_two
def lTurn:List Nat:=[121,46]
structure LogM (M:Nat→Prop) (w:World) (lp dp:Nat) (v:Value) (L:Lg):Prop where
  box:w.heap[lp]? = some (.cells (logCells dp L.first L.blocks L.base L.epoch v L.done) 121 (0,0))
  row:w.ownsRow 0 46 10 v L.l.length (recCells L.l)
  low : ∀k,v.ownBlock=some k→M k
  mp:M lp
  ok:L.Ok
theorem LogM.cells {M:Nat→Prop}{w:World}{lp dp:Nat}{v:Value}{L:Lg}(h:LogM M w lp dp v L) :
    w.cell? ⟨lp,0,none⟩=some (.pointer (some ⟨dp,0,none⟩))∧w.cell? ⟨lp,1,none⟩=some (.int .i64 L.first)∧w.cell? ⟨lp,2,none⟩=some (.int .i64 L.blocks)∧w.cell? ⟨lp,3,none⟩=some (.int .i64 L.base)∧w.cell? ⟨lp,4,none⟩=some (.int .i64 L.epoch)∧w.cell? ⟨lp,5,none⟩=some v∧w.cell? ⟨lp,6,none⟩=some (.int .i64 L.done):=by
  refine⟨?_,?_,?_,?_,?_,?_,?_⟩<;>simp[World.cell?,h.box,logCells]
theorem LogM.frozen {M:Nat→Prop}{w:World}{lp dp:Nat}{v:Value}{L:Lg}(h:LogM M w lp dp v L)(i:Nat):w.frozen? ⟨lp,i,none⟩=false:=by simp[World.frozen?,h.box]
theorem LogM.move {M:Nat→Prop}{w w':World}{lp dp:Nat}{v:Value}{L:Lg}(h:LogM M w lp dp v L)(hb : ∀k,k<w.heap.size→tag w k∈lTurn→M k→w'.heap[k]? = w.heap[k]?):LogM M w' lp dp v L:=
  ⟨(hb lp (heap_lt h.box) (by rw[tag_of h.box];decide) h.mp).trans h.box,ow_move h.row fun k hk=>by obtain⟨_,c,hc⟩:=ow_block h.row hk;exact hb k (heap_lt hc) (by rw[tag_of hc];decide) (h.low k hk),h.low,h.mp,h.ok⟩
theorem LogM.below {M:Nat→Prop}{w w':World}{lp dp:Nat}{v:Value}{L:Lg}(h:LogM M w lp dp v L)(hb:Below w.heap.size w w'):LogM M w' lp dp v L:=h.move fun k hk _ _=>hb.block k hk
theorem LogM.frm {T:List Nat}{M M':Nat→Prop}{w w':World}{lp dp:Nat}{v:Value}{L:Lg}(h:LogM M w lp dp v L)(hf:Frm T M' w w')(hT : ∀t∈lTurn,t∉T):LogM M w' lp dp v L:=h.move fun k hk ht _=>hf.block k hk fun _=>hT _ ht
theorem LogM.mono {M M':Nat→Prop}{w:World}{lp dp:Nat}{v:Value}{L:Lg}(h:LogM M w lp dp v L)(hm : ∀k,M k→M' k):LogM M' w lp dp v L:=⟨h.box,h.row,fun k hk=>hm k (h.low k hk),hm lp h.mp,h.ok⟩
theorem LogM.form {M:Nat→Prop}{w:World}{lp dp:Nat}{v:Value}{L:Lg}(h:LogM M w lp dp v L) : ∃A c,v = .slice A L.l.length c:=by
  obtain⟨A,c,hv,_⟩:=ow_slice h.row
  exact⟨A,c,hv⟩
theorem lg_bounds {L:Lg}(h:L.Ok):0≤L.first∧L.first≤1000∧0≤L.blocks∧L.blocks≤1000∧0≤L.base∧L.base≤1073741824∧(L.l.length:Int)≤6000∧L.done≤L.l.length:=by
  obtain⟨⟨f1,f2⟩,⟨b1,b2⟩,⟨c1,c2⟩,_,h5,_,h7,_⟩:=h
  exact⟨f1,f2,b1,b2,c1,c2,by omega,h7⟩
theorem last_log (M:Nat→Prop)(lp dp:Nat)(v:Value)(L:Lg)(w:World)(hl:LogM M w lp dp v L) :
    Calls Tryz.prog 24 #[.pointer (some ⟨lp,0,none⟩)] w fun e w'=>e = .returned (.int .i64 L.last)∧Below w.heap.size w w':=by
  obtain⟨c0,c1,c2,c3,c4,c5,c6⟩:=hl.cells
  obtain⟨A,c,hv⟩:=hl.form
  obtain⟨k1,k2,k3,k4,k5,k6,k7,k8⟩:=lg_bounds hl.ok
  obtain⟨n,hn⟩ : ∃n,L.l.length=n:=⟨_,rfl⟩
  obtain⟨ba,hba⟩ : ∃b,L.base=b:=⟨_,rfl⟩
  have HN:=Aside0.mk (show L.last=ba+n by unfold Lg.last;rw[hba,hn])
  rw[hn] at hv k7
  rw[hba] at c3 k5 k6
  clear hl hn hba c0 c1 c2 c4 c6 k1 k2 k3 k4 k8
  subst hv
  have hw:IntKind.i64.wrap (ba+(n:Int))=ba+n:=IntWalk.i64_in _ (by omega)
  go_enter Tryz.func24,Tryz.ntmps24
  go_wp2_with fail
  go_quiet (fail)
  go_wp2_with fail
  go_ret
  exact⟨by simp[HN.out],by repeat (first | exact Below.refl _ _ | apply pw_below_drewN | apply below_drew1)⟩
theorem done_log (M:Nat→Prop)(lp dp:Nat)(v:Value)(L:Lg)(w:World)(hl:LogM M w lp dp v L) :
    Calls Tryz.prog 26 #[.pointer (some ⟨lp,0,none⟩)] w fun e w'=>e = .returned (.int .i64 L.doneN)∧Below w.heap.size w w':=by
  obtain⟨c0,c1,c2,c3,c4,c5,c6⟩:=hl.cells
  obtain⟨k1,k2,k3,k4,k5,k6,k7,k8⟩:=lg_bounds hl.ok
  obtain⟨n,hn⟩ : ∃n,L.done=n:=⟨_,rfl⟩
  obtain⟨ba,hba⟩ : ∃b,L.base=b:=⟨_,rfl⟩
  have HN:=Aside0.mk (show L.doneN=ba+n by unfold Lg.doneN;rw[hba,hn])
  have hn6:(n:Int)≤6000:=by omega
  rw[hn] at c6
  rw[hba] at c3 k5 k6
  clear hl hn hba c0 c1 c2 c4 c5 k1 k2 k3 k4 k7 k8
  have hw:IntKind.i64.wrap (ba+(n:Int))=ba+n:=IntWalk.i64_in _ (by omega)
  go_enter Tryz.func26,Tryz.ntmps26
  go_wp2_with fail
  go_quiet (fail)
  go_wp2_with fail
  go_ret
  exact⟨by simp[HN.out],by repeat (first | exact Below.refl _ _ | apply pw_below_drewN | apply below_drew1)⟩
theorem room_log (M:Nat→Prop)(lp dp:Nat)(v:Value)(L:Lg)(w:World)(hl:LogM M w lp dp v L) :
    Calls Tryz.prog 18 #[.pointer (some ⟨lp,0,none⟩)] w fun e w'=>e = .returned (.int .i64 L.room)∧Below w.heap.size w w':=by
  obtain⟨c0,c1,c2,c3,c4,c5,c6⟩:=hl.cells
  obtain⟨A,c,hv⟩:=hl.form
  obtain⟨k1,k2,k3,k4,k5,k6,k7,k8⟩:=lg_bounds hl.ok
  have HL:=Aside0.mk hl
  obtain⟨n,hn⟩ : ∃n,L.l.length=n:=⟨_,rfl⟩
  obtain⟨la,hla⟩ : ∃b,L.last=b:=⟨_,rfl⟩
  obtain⟨bl,hbl⟩ : ∃b,L.blocks=b:=⟨_,rfl⟩
  have HLA:=Aside0.mk hla
  have HN:=Aside0.mk (show L.room=imax (imin (bl*6 - n) (1073741824 - la)) 0 by unfold Lg.room;rw[hbl,hn,hla,imin_eq,imax_eq])
  have hla2:0≤la∧la≤1073750000:=by rw[←hla];unfold Lg.last;omega
  obtain⟨l1,l2⟩:=hla2
  rw[hn] at hv k7
  rw[hbl] at c2 k3 k4
  clear hl hn hbl c0 c1 c3 c4 c6 k1 k2 k5 k6 k8 hla
  subst hv
  have hw1:IntKind.i64.wrap (bl*6)=bl*6:=IntWalk.i64_in _ (by omega)
  have hw2:IntKind.i64.wrap (bl*6 - (n:Int))=bl*6 - n:=IntWalk.i64_in _ (by omega)
  have hw3:IntKind.i64.wrap (1073741824 - la)=1073741824 - la:=IntWalk.i64_in _ (by omega)
  go_enter Tryz.func18,Tryz.ntmps18
  go_wp2_with fail
  go_region_held3 (fun w'=>w'.cell? ⟨lp,2,none⟩=some (.int .i64 bl)∧w'.cell? ⟨lp,5,none⟩=some (.slice A n c))
    (refine⟨?_,?_⟩<;>(first | go_keep | exact hk1 | exact hk2))
    (first | (go_at_call 24;refine (last_log M lp dp _ L _ (by exact HL.out.below (by repeat (first | exact Below.refl _ _ | apply below_drew1)))).mono ?_;rintro e w1 ⟨rfl,hb⟩;rw[HLA.out];have hk1:w1.cell? ⟨lp,2,none⟩=some (.int .i64 bl):=pw_cell_below hb c2;have hk2:w1.cell? ⟨lp,5,none⟩=some (.slice A n c):=pw_cell_below hb c5))
  have HB:=Aside0.mk (show Below w.heap.size w w1 from⟨hb.os,hb.tape,hb.output,hb.size,hb.block⟩)
  clear hb
  go_wp2_with fail
  go_ret
  exact⟨by simp[HN.out],HB.out⟩
theorem grown_trans {w w2 W w3:World}{row:Option Nat}(h1:Below w.heap.size w w2)(h2:Below w2.heap.size w2 W)(hgr:W.grownBy w3 row):w.grownBy w3 row:=
  ⟨hgr.os.trans (h2.os.trans h1.os),hgr.tape.trans (h2.tape.trans h1.tape),hgr.output.trans (h2.output.trans h1.output),Nat.le_trans h1.size (Nat.le_trans h2.size hgr.size),fun j hj hne=>(hgr.block j (Nat.lt_of_lt_of_le hj (Nat.le_trans h1.size h2.size)) hne).trans ((h2.block j (Nat.lt_of_lt_of_le hj h1.size)).trans (h1.block j hj))⟩
theorem log_put {M:Nat→Prop}{w w1:World}{lp dp:Nat}{v v':Value}{L L':Lg}(h:LogM M w lp dp v L)(ho:w1.ownsRow 0 46 10 v' L'.l.length (recCells L'.l))(hL:L'={ L with l:=L'.l })(hok:L'.Ok)(hg:w.grownBy w1 v.ownBlock)
    (hat:v'.ownBlock=v.ownBlock∨∀k,v'.ownBlock=some k→w.heap.size≤k) :
    LogM (Gr M w w1) (w1.setCell ⟨lp,5,none⟩ v') lp dp v' L'∧Frm lTurn M w (w1.setCell ⟨lp,5,none⟩ v'):=by
  have hpl:=heap_lt h.box
  have hvn:v.ownBlock≠some lp:=fun e=>by
    obtain⟨_,c,hc⟩:=ow_block h.row e
    rw[h.box] at hc
    injection hc with hc;injection hc with _ hc
    exact absurd hc (by decide)
  have hb1:w1.heap[lp]? = some (.cells (logCells dp L.first L.blocks L.base L.epoch v L.done) 121 (0,0)):=(hg.block lp hpl (fun e=>hvn e.symm)).trans h.box
  have hne:v'.ownBlock≠some lp:=fun e=>by
    obtain⟨_,c,hc⟩:=ow_block ho e
    rw[hb1] at hc
    injection hc with hc;injection hc with _ hc
    exact absurd hc (by decide)
  have hF1:Frm lTurn M w w1:=(Frm.refl lTurn M w).grown hg (fun k hk hlt=>⟨h.low k hk,by obtain⟨_,c,hc⟩:=ow_block h.row hk;rw[tag_of hc];decide⟩)
  refine⟨⟨?_,ow_move ho fun k hk=>Below.heap_setCell _ _ _ _ (fun e=>hne (by rw[hk];exact congrArg some e)),fun k hk => ?_,.inl h.mp,hok⟩,hF1.set (fun _=>⟨h.mp,by rw[tag_of h.box];decide⟩) _⟩
  · rw[hL]
    exact heap_setCell_same _ _ _ _ _ _ hb1
  · rcases hat with hat | hat
    · exact .inl (h.low k (hat ▸ hk))
    · obtain⟨_,c,hc⟩:=ow_block ho hk
      exact .inr ⟨hat k hk,heap_lt hc⟩
theorem append_ok {L:Lg}{r:RecV}(h:L.Ok)(hr:recOk r=true)(hm : ¬L.room<1):({ L with l:=L.l++[r] }:Lg).Ok:=by
  obtain⟨h1,h2,h3,h4,h5,h6,h7,h8⟩:=h
  unfold Lg.room Lg.last at hm
  refine⟨h1,h2,h3,h4,?_,?_,?_,fun x hx => ?_⟩
  · simp only[List.length_append,List.length_cons,List.length_nil];omega
  · simp only[List.length_append,List.length_cons,List.length_nil];omega
  · simp only[List.length_append,List.length_cons,List.length_nil];omega
  · rcases List.mem_append.1 hx with hx | hx
    · exact h8 x hx
    · rw[List.mem_singleton.1 hx];exact hr
def AppendPost (a:Nat→Addr)(M:Nat→Prop)(lp dp:Nat)(L:Lg)(r:RecV)(w:World)(e:Ending)(w':World):Prop:=
  e = .returned (.tuple #[.int .i64 (appendN L r),errv a (appendE L r)])∧∃v',LogM (Gr M w w') w' lp dp v' (appendL L r)∧Frm lTurn M w w'
theorem info_rec:(Tryz.prog.info? 46).map (fun i=>(i.zero,i.size,i.bytes))=some (some (.agg #[.int .i64 0,.int .i64 0,.int .i64 0,.int .i64 0,.int .i64 0,.int .i64 0,.bool false,.bool false,.int .i64 0,.int .i64 0]),10,72):=by kernel_rfl
theorem len72 {n:Nat}(h:n≤100000):(n+1)*72≤140737488355328:=by omega
theorem news10_at (W:World)(b:Nat)(hb:W.heap.size=b)(r:RecV)(e:Nat) : ∀j x,(recL r)[j]? = some x→(W.alloc (.cells (recA r) e)).cell? ((⟨b,0,none⟩:Addr).add j)=some x:=by
  subst hb
  exact World.news_of_block (cs:=recA r) (heap_alloc_new W _)
theorem append_log (a:Nat→Addr)(M:Nat→Prop)(lp dp:Nat)(v:Value)(L:Lg)(r:RecV)(w:World)(hs:SentsK kn8 w a)(hl:LogM M w lp dp v L) :
    Calls Tryz.prog 63 #[.pointer (some ⟨lp,0,none⟩),recV r] w (AppendPost a M lp dp L r w):=by
  obtain⟨i0,hi0,hzz⟩:=Option.map_eq_some_iff.1 info_rec
  simp only[Prod.mk.injEq] at hzz
  obtain⟨hz0,hz1,hz2⟩:=hzz
  have HI0:=Aside0.mk (And.intro hi0 (And.intro hz0 (And.intro hz1 hz2)))
  have HS:=Aside0.mk hs
  have HL:=Aside0.mk hl
  have hlpl:=heap_lt hl.box
  obtain⟨A,c,hv⟩:=hl.form
  have hgl:2<w.heap.size:=World.block_lt_of_cell? _ _ (hs.cell 8 (by decide))
  have hn6:=(lg_bounds hl.ok).2.2.2.2.2.2.1
  obtain⟨n,hn⟩ : ∃n,L.l.length=n:=⟨_,rfl⟩
  have HN:=Aside0.mk hn
  rw[hn] at hv hn6
  clear hs hl hi0 hz0 hz1 hz2 hn
  obtain⟨rr,hrr⟩ : ∃rr,rr=r:=⟨_,rfl⟩
  have HRR:=Aside0.mk hrr
  clear hrr
  obtain⟨k,t,pg,pv,nx,ky,hd,hh,ol,nw⟩:=r
  subst hv
  have hpost : ∀x o,appendN L ⟨k,t,pg,pv,nx,ky,hd,hh,ol,nw⟩=x→appendE L ⟨k,t,pg,pv,nx,ky,hd,hh,ol,nw⟩=o→appendL L ⟨k,t,pg,pv,nx,ky,hd,hh,ol,nw⟩=L→∀w',Below w.heap.size w w'→AppendPost a M lp dp L ⟨k,t,pg,pv,nx,ky,hd,hh,ol,nw⟩ w (.returned (.tuple #[.int .i64 x,errv a o])) w':=fun x o h1 h2 h3 w' hb=>
    ⟨by rw[h1,h2],_,by rw[h3];exact (HL.out.below hb).mono fun k hk=>.inl hk,Frm.of_below hb⟩
  have HPOST:=Aside0.mk hpost
  clear hpost
  go_enter Tryz.func63,Tryz.ntmps63
  go_wp2_with fail
  refine (check_calls a ⟨k,t,pg,pv,nx,ky,hd,hh,ol,nw⟩ _ (by exact (HS.out.sub (K':=kn) (by decide)).below (below_alloc (Below.refl _ _) _))).mono ?_
  rintro e w1 ⟨rfl,hb⟩
  have hc1_0:w1.cell? ⟨w.heap.size,0,none⟩=some (.int .i64 k):=(hb.cell (p:=⟨w.heap.size,0,none⟩) (by simp)).trans (by simp)
  have hc1_1:w1.cell? ⟨w.heap.size,1,none⟩=some (.int .i64 t):=(hb.cell (p:=⟨w.heap.size,1,none⟩) (by simp)).trans (by simp)
  have hc1_2:w1.cell? ⟨w.heap.size,2,none⟩=some (.int .i64 pg):=(hb.cell (p:=⟨w.heap.size,2,none⟩) (by simp)).trans (by simp)
  have hc1_3:w1.cell? ⟨w.heap.size,3,none⟩=some (.int .i64 pv):=(hb.cell (p:=⟨w.heap.size,3,none⟩) (by simp)).trans (by simp)
  have hc1_4:w1.cell? ⟨w.heap.size,4,none⟩=some (.int .i64 nx):=(hb.cell (p:=⟨w.heap.size,4,none⟩) (by simp)).trans (by simp)
  have hc1_5:w1.cell? ⟨w.heap.size,5,none⟩=some (.int .i64 ky):=(hb.cell (p:=⟨w.heap.size,5,none⟩) (by simp)).trans (by simp)
  have hc1_6:w1.cell? ⟨w.heap.size,6,none⟩=some (.bool hd):=(hb.cell (p:=⟨w.heap.size,6,none⟩) (by simp)).trans (by simp)
  have hc1_7:w1.cell? ⟨w.heap.size,7,none⟩=some (.bool hh):=(hb.cell (p:=⟨w.heap.size,7,none⟩) (by simp)).trans (by simp)
  have hc1_8:w1.cell? ⟨w.heap.size,8,none⟩=some (.int .i64 ol):=(hb.cell (p:=⟨w.heap.size,8,none⟩) (by simp)).trans (by simp)
  have hc1_9:w1.cell? ⟨w.heap.size,9,none⟩=some (.int .i64 nw):=(hb.cell (p:=⟨w.heap.size,9,none⟩) (by simp)).trans (by simp)
  have hz1:w.heap.size<w1.heap.size:=by have:=hb.size;simp at this;omega
  have HB:=Aside0.mk (below_step (below_alloc (Below.refl w.heap.size w) (.cells #[.int .i64 k,.int .i64 t,.int .i64 pg,.int .i64 pv,.int .i64 nx,.int .i64 ky,.bool hd,.bool hh,.int .i64 ol,.int .i64 nw] 46)) hb)
  clear hb
  cases hok:recOk ⟨k,t,pg,pv,nx,ky,hd,hh,ol,nw⟩ with
  | false=>
    have hce:errv a (recE ⟨k,t,pg,pv,nx,ky,hd,hh,ol,nw⟩) = .iface 333 (.pointer (some (a 1))):=by unfold recE;rw[hok];rfl
    have HR:=Aside0.mk (show appendN L ⟨k,t,pg,pv,nx,ky,hd,hh,ol,nw⟩=0∧appendE L ⟨k,t,pg,pv,nx,ky,hd,hh,ol,nw⟩=some 1∧appendL L ⟨k,t,pg,pv,nx,ky,hd,hh,ol,nw⟩=L by unfold appendN appendE appendL;simp[hok])
    rw[hce]
    clear hce hok
    go_wp2_with fail
    exact bodyPost_ret (v:=.tuple #[.int .i64 0,.iface 333 (.pointer (some (a 1)))]) (by simp[results,Tryz.results63,go_sem]) rfl (HPOST.out 0 (some 1) HR.out.1 HR.out.2.1 HR.out.2.2 _ HB.out)
  | true=>
    have hce:errv a (recE ⟨k,t,pg,pv,nx,ky,hd,hh,ol,nw⟩) = .nilIface:=by unfold recE;rw[hok];rfl
    have HOK:=Aside0.mk hok
    rw[hce]
    clear hce hok
    go_wp2_with fail
    refine (room_log M lp dp _ L _ (by exact HL.out.below HB.out)).mono ?_
    rintro e w2 ⟨rfl,hb⟩
    have hc2_0:w2.cell? ⟨w.heap.size,0,none⟩=some (.int .i64 k):=(hb.cell (p:=⟨w.heap.size,0,none⟩) (by exact hz1)).trans hc1_0
    have hc2_1:w2.cell? ⟨w.heap.size,1,none⟩=some (.int .i64 t):=(hb.cell (p:=⟨w.heap.size,1,none⟩) (by exact hz1)).trans hc1_1
    have hc2_2:w2.cell? ⟨w.heap.size,2,none⟩=some (.int .i64 pg):=(hb.cell (p:=⟨w.heap.size,2,none⟩) (by exact hz1)).trans hc1_2
    have hc2_3:w2.cell? ⟨w.heap.size,3,none⟩=some (.int .i64 pv):=(hb.cell (p:=⟨w.heap.size,3,none⟩) (by exact hz1)).trans hc1_3
    have hc2_4:w2.cell? ⟨w.heap.size,4,none⟩=some (.int .i64 nx):=(hb.cell (p:=⟨w.heap.size,4,none⟩) (by exact hz1)).trans hc1_4
    have hc2_5:w2.cell? ⟨w.heap.size,5,none⟩=some (.int .i64 ky):=(hb.cell (p:=⟨w.heap.size,5,none⟩) (by exact hz1)).trans hc1_5
    have hc2_6:w2.cell? ⟨w.heap.size,6,none⟩=some (.bool hd):=(hb.cell (p:=⟨w.heap.size,6,none⟩) (by exact hz1)).trans hc1_6
    have hc2_7:w2.cell? ⟨w.heap.size,7,none⟩=some (.bool hh):=(hb.cell (p:=⟨w.heap.size,7,none⟩) (by exact hz1)).trans hc1_7
    have hc2_8:w2.cell? ⟨w.heap.size,8,none⟩=some (.int .i64 ol):=(hb.cell (p:=⟨w.heap.size,8,none⟩) (by exact hz1)).trans hc1_8
    have hc2_9:w2.cell? ⟨w.heap.size,9,none⟩=some (.int .i64 nw):=(hb.cell (p:=⟨w.heap.size,9,none⟩) (by exact hz1)).trans hc1_9
    have hz2:w.heap.size<w2.heap.size:=by have:=hb.size;omega
    have hg8:w2.cell? ⟨2,0,none⟩=some (.iface 333 (.pointer (some (a 8)))):=(HS.out.below (below_step HB.out hb)).cell 8 (by decide)
    replace HB:=Aside0.mk (below_step HB.out hb)
    clear hb hc1_0 hc1_1 hc1_2 hc1_3 hc1_4 hc1_5 hc1_6 hc1_7 hc1_8 hc1_9
    obtain⟨ro,hro⟩ : ∃ro,L.room=ro:=⟨_,rfl⟩
    rw[hro]
    by_cases hrm:ro<1
    · have HR:=Aside0.mk (show appendN L ⟨k,t,pg,pv,nx,ky,hd,hh,ol,nw⟩=0∧appendE L ⟨k,t,pg,pv,nx,ky,hd,hh,ol,nw⟩=some 8∧appendL L ⟨k,t,pg,pv,nx,ky,hd,hh,ol,nw⟩=L by unfold appendN appendE appendL;simp[HOK.out,hro,hrm])
      have q1:decide (ro<1)=true:=decide_eq_true hrm
      clear hro hrm
      go_wp2_with fail
      go_quiet (fail)
      go_wp2_with fail
      exact bodyPost_ret (v:=.tuple #[.int .i64 0,.iface 333 (.pointer (some (a 8)))]) (by simp[results,Tryz.results63,go_sem]) rfl (HPOST.out 0 (some 8) HR.out.1 HR.out.2.1 HR.out.2.2 _ (by repeat (first | exact HB.out | apply pw_below_drewN | apply below_drew1)))
    · have HR:=Aside0.mk (show appendN L ⟨k,t,pg,pv,nx,ky,hd,hh,ol,nw⟩=L.last+1∧appendE L ⟨k,t,pg,pv,nx,ky,hd,hh,ol,nw⟩=none∧appendL L ⟨k,t,pg,pv,nx,ky,hd,hh,ol,nw⟩={ L with l:=L.l++[⟨k,t,pg,pv,nx,ky,hd,hh,ol,nw⟩] } by unfold appendN appendE appendL;simp[HOK.out,hro,hrm])
      have HOK2:=Aside0.mk (append_ok HL.out.ok HOK.out (by rw[hro];exact hrm))
      have q1:decide (ro<1)=false:=decide_eq_false hrm
      have hl2:=HL.out.below HB.out
      obtain⟨_,_,_,_,_,hc5,_⟩:=hl2.cells
      have hfz:=hl2.frozen 5
      have HL2:=Aside0.mk hl2
      have hlp2:=heap_lt hl2.box
      have hvn:(Value.slice A n c).ownBlock≠some lp:=fun e=>by
        obtain⟨_,cc,hcc⟩:=ow_block hl2.row e
        rw[hl2.box] at hcc
        injection hcc with hcc;injection hcc with _ hcc
        exact absurd hcc (by decide)
      have HVN:=Aside0.mk hvn
      obtain⟨hi0,hz0,hz1',hz2'⟩:=HI0.out
      have hn5:n≤100000:=by omega
      clear hro hrm hl2 hvn
      go_wp2_with fail
      go_region_law (refine step_append_lies _ (by rfl) _ _ 119 (by rfl) 0 46 i0 (.agg #[.int .i64 0,.int .i64 0,.int .i64 0,.int .i64 0,.int .i64 0,.int .i64 0,.bool false,.bool false,.int .i64 0,.int .i64 0]) 10 72 Tryz.underlying119 hi0 hz0 hz1' hz2' rfl (by decide) _ n (recCells L.l) (by rfl) (by have h:=HL2.out.row;rw[HN.out] at h;exact ow_below h (by repeat (first | exact Below.refl _ _ | apply below_drew1 | apply below_alloc))) ⟨w2.heap.size,0,none⟩ 1 1 (recL ⟨k,t,pg,pv,nx,ky,hd,hh,ol,nw⟩) (by rfl) rfl (by exact news10_at _ _ (by simp) ⟨k,t,pg,pv,nx,ky,hd,hh,ol,nw⟩ _) (by exact recL_one _) (by decide) (by exact len_ok hn5) (by exact len72 hn5) (by exact Nat.zero_le _) (w2.heap.size+1) (by simp) ?_;intro g2 cap2 w3 hown hgr hor hlt3;have hkg:w3.heap[lp]? = w2.heap[lp]? := grown_blk hgr (by exact (show Below w2.heap.size w2 _ by repeat (first | exact Below.refl _ _ | apply below_drew1 | apply below_alloc)).block _ hlp2) (by simp;omega) (fun k hk e=>HVN.out ((show _=some k from hk).trans (congrArg some e)));have hs1:w3.cell? ⟨lp,5,none⟩=some (.slice A n c):=(World.cell?_of_block (w:=w2) (a:=⟨lp,5,none⟩) hkg).trans hc5;have hs2:w3.frozen? ⟨lp,5,none⟩=false:=(World.frozen?_of_block (w:=w2) (a:=⟨lp,5,none⟩) hkg).trans hfz)
      all_goals
        have HOWN:=Aside0.mk hown
        have HOR:=Aside0.mk hor
        have HGR:=Aside0.mk (show w.grownBy w3 (Value.slice A n c).ownBlock from grown_trans HB.out (by repeat (first | exact Below.refl _ _ | apply below_drew1 | apply below_alloc)) hgr)
        clear hown hor hgr hi0 hz0 hz1' hz2' hkg
        have HP:=Aside0.mk (log_put HL.out (w1:=w3) (v':=.slice (some ⟨g2,0,none⟩) (n+1) cap2) (L':={ L with l:=L.l++[⟨k,t,pg,pv,nx,ky,hd,hh,ol,nw⟩] }) (by
          rw[List.length_append,HN.out,recCells_append]
          have:=HOWN.out
          have e:recCells [⟨k,t,pg,pv,nx,ky,hd,hh,ol,nw⟩]=recL ⟨k,t,pg,pv,nx,ky,hd,hh,ol,nw⟩:=by simp[recCells]
          rw[e];exact this) rfl HOK2.out HGR.out (by
          rcases HOR.out with h | h
          · exact .inl h.symm
          · exact .inr fun j hj=>by
              have:g2=j:=by simpa [Value.ownBlock] using hj
              have:=HB.out.size
              omega))
        go_wp2_with fail
        refine (last_log _ lp dp _ _ _ HP.out.1).mono ?_
        rintro e w4 ⟨rfl,hb4⟩
        have HB4:=Aside0.mk hb4
        have HLAST:=Aside0.mk (show ({ L with l:=L.l++[⟨k,t,pg,pv,nx,ky,hd,hh,ol,nw⟩] }:Lg).last=L.last+1 by unfold Lg.last;simp;omega)
        clear hb4
        go_wp2_with fail
        exact bodyPost_ret (v:=.tuple #[.int .i64 (({ L with l:=L.l++[⟨k,t,pg,pv,nx,ky,hd,hh,ol,nw⟩] }:Lg).last),.nilIface]) (by simp[results,Tryz.results63,go_sem]) rfl ⟨by rw[HR.out.1,HR.out.2.1,HLAST.out];rfl,_,by
          rw[HR.out.2.2]
          exact (HP.out.1.below HB4.out).mono fun j hj=>by
            rcases hj with hj | ⟨h1,h2⟩
            · exact .inl hj
            · exact .inr ⟨h1,by have:=HB4.out.size;simp[World.setCell] at this;omega⟩,HP.out.2.step HB4.out⟩
end Go.Proofs.YtaplpeoikebedaaGreatDoor.Wal
namespace Go.Proofs.YtaplpeoikebedaaGreatDoor.Rw
open Go.RowKit YtaplpeoikebedaaGreatDoorW.PrintWords YtaplpeoikebedaaGreatDoorW.PrintLast YtaplpeoikebedaaGreatDoorW.PrintMore
open See Mem
def setL:List Value→Nat→List Value→List Value
  | xs,_,[]=>xs
  | xs,o,v :: vs=>setL (xs.set o v) (o+1) vs
theorem setL_len : ∀(vs:List Value) (xs:List Value) (o:Nat),(setL xs o vs).length=xs.length
  | [],xs,o=>rfl
  | v :: vs,xs,o=>by unfold setL;rw[setL_len vs];simp
theorem setL_eq : ∀(vs:List Value) (xs:List Value) (o:Nat),o+vs.length≤xs.length→setL xs o vs=xs.take o++(vs++xs.drop (o+vs.length))
  | [],xs,o,_=>by simp[setL]
  | v :: vs,xs,o,h=>by
    simp only[List.length_cons] at h
    unfold setL
    rw[setL_eq vs (xs.set o v) (o+1) (by simp;omega)]
    have h1:(xs.set o v).take (o+1)=xs.take o++[v]:=by
      rw[List.take_succ_eq_append_getElem (by simp;omega)]
      simp[List.take_set_of_le]
    have h2:(xs.set o v).drop (o+1+vs.length)=xs.drop (o+(vs.length+1)):=by
      rw[List.drop_set_of_lt (by omega)]
      congr 1
      omega
    rw[h1,h2]
    simp
theorem own_setCells {base e size n g cap:Nat} : ∀(vs:List Value) (o:Nat) (w:World) (xs:List Value),w.ownsRow base e size (.slice (some ⟨g,0,none⟩) n cap) n xs →
    (w.setCells g o vs).ownsRow base e size (.slice (some ⟨g,0,none⟩) n cap) n (setL xs o vs)∧w.grownBy (w.setCells g o vs) (some g)
  | [],o,w,xs,h=>⟨h,⟨rfl,rfl,rfl,Nat.le_refl _,fun _ _ _=>rfl⟩⟩
  | v :: vs,o,w,xs,h=>by
    obtain⟨h1,g1⟩:=h.stored o v
    obtain⟨h2,g2⟩:=own_setCells vs (o+1) _ _ h1
    exact⟨h2,g1.trans g2⟩
theorem own_cut {w:World}{base e size n m g cap:Nat}{xs:List Value}(h:w.ownsRow base e size (.slice (some ⟨g,0,none⟩) n cap) n xs)(hm:m≤n):w.ownsRow base e size (.slice (some ⟨g,0,none⟩) m cap) m (xs.take (m*size)):=by
  obtain⟨h1,h2⟩:=h
  have hle:m*size≤n*size:=Nat.mul_le_mul_right _ hm
  refine⟨by rw[List.length_take,h1];omega,?_⟩
  rcases h2 with ⟨h2,_⟩ | ⟨g',cap',cur,hv,hg,hh,hnc,hcm,hsz,htk⟩
  · cases h2
  · simp at hv
    obtain⟨rfl,rfl⟩:=hv
    exact .inr ⟨g,cap,cur,rfl,hg,hh,by omega,hcm,hsz,by rw[←htk,List.take_take,Nat.min_eq_left hle]⟩
end Go.Proofs.YtaplpeoikebedaaGreatDoor.Rw
