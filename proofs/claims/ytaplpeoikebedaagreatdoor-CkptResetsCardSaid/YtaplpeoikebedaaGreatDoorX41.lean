/- Joined texts: CkptC, ResetD, WalA. No condition but what each says. -/
import Derived.Test.YtaplpeoikebedaaGreatDoorX40
import Derived.Test.YtaplpeoikebedaaGreatDoorX30
import Derived.Deep.RegionLaw
set_option maxHeartbeats 8000000
set_option maxRecDepth 100000
set_option linter.unusedVariables false
set_option linter.unusedSimpArgs false
namespace Go.Proofs.YtaplpeoikebedaaGreatDoor.CkptC
open Go.RowKit Go.Maps YtaplpeoikebedaaGreatDoorW.PrintWords YtaplpeoikebedaaGreatDoorW.PrintLast YtaplpeoikebedaaGreatDoorW.PrintMore
open See Mem Page PageR PageL Disk DiskW DiskS RecD Rec BlockB Wal WalF Pool2 SysD SysM Fresh Pager StoreD StoreF StoreI StoreJ TransT SpaceT FwdM FwdP BackL BackM BackU MasC MasT CkptM CkptK CkptR CkptP CkptW
attribute [local go_sem] max2_imax min2_imin max_two min_two
def ckRecs (F:FS):List RecV:=recsL F.most F.ts F.S.t
theorem ckRecs_len (F:FS):(ckRecs F).length=2+F.ts.length+F.S.t.length:=by unfold ckRecs recsL;simp;omega
theorem ck_recs {N m:Nat}{ch:Int→List Int}{kp:Int→Int}{F:FS}(h:FOk N m ch kp F)(hst : ∀x∈F.ts,0≤x.state∧x.state≤2) : ∀r∈ckRecs F,recOk r=true∧is64 r.old∧is64 r.new:=by
  have hl:=h.g.lok
  have hb:=hl.base
  have hl2:=hl.last
  have hmo:=h.t.most
  have hp32:=h.g.p32
  have hlast:F.S.l.last=F.S.l.base+(F.S.l.l.length:Int):=rfl
  intro r hr
  unfold ckRecs recsL at hr
  rcases List.mem_append.1 hr with hr | hr
  · rcases List.mem_append.1 hr with hr | hr
    · rcases List.mem_cons.1 hr with rfl | hr
      · exact⟨by decide,by unfold ckB is64;simp,by unfold ckB is64;simp⟩
      · obtain⟨x,hx,rfl⟩:=List.mem_map.1 hr
        obtain⟨i1,i2⟩:=h.t.ids x hx
        obtain⟨c1,c2,c3⟩:=h.c.last x hx
        have hnx:=h.c.next x hx
        obtain⟨s1,s2⟩:=hst x hx
        have hn:0≤x.next∧x.next≤1073741824:=by
          rw[hnx]
          cases hq:ch x.id with
          | nil=>exact⟨Int.le_refl 0,by decide⟩
          | cons k ks=>
            rw[hq] at c1
            have h1:=Chain.le c1 k List.mem_cons_self
            obtain⟨_,q,hq2,_⟩:=c1.at_ k List.mem_cons_self
            have h2 : ¬(k≤F.S.l.base∨F.S.l.last<k):=fun hc=>by
              unfold recOf at hq2
              rw[if_pos hc] at hq2
              cases hq2
            show 0≤k∧k≤1073741824
            omega
        refine⟨?_,by unfold ckT is64;simp,by unfold ckT is64;simp⟩
        unfold ckT recOk inB txnMax pageMax prevOk nextOk rkeyOk valsOk inB
        simp
        omega
    · obtain⟨d,hd,rfl⟩:=List.mem_map.1 hr
      obtain⟨⟨f,f1,f2⟩,d1,d2⟩:=h.g.pg.tab d hd
      obtain⟨g1,g2,_⟩:=h.g.pg.here f f1
      refine⟨?_,by unfold ckP is64;simp,by unfold ckP is64;simp⟩
      unfold ckP recOk inB txnMax pageMax prevOk nextOk rkeyOk valsOk inB
      simp
      omega
  · rw[List.mem_singleton] at hr
    subst hr
    refine⟨?_,by unfold ckE is64;simp,by unfold ckE is64;simp⟩
    unfold ckE recOk inB txnMax pageMax prevOk nextOk rkeyOk valsOk inB
    simp
    omega
def ckM (F:FS)(m:Mst):Mst:={ m with ckpt:=F.S.l.last+1 }
def ckF (F:FS)(m:Mst):FS:={ F with S:=wrS F.S (ckRecs F) (ckM F m),free:=F.free - ((2+F.ts.length+F.S.t.length:Nat):Int) }
theorem CkM.turn {M:Nat→Prop}{cp bp bm sp lp pp dp qp mp:Nat}{blocks frames:Int}{B:BSt}{m m':Mst}{w W:World}(h:CkM M w cp bp bm sp lp pp dp qp mp blocks frames B m)(hc:W.heap[cp]? = some (.cells (ckCells bp dp m') 86 (0,0)))(ho : ∀j,j≠cp→W.heap[j]? = w.heap[j]?):CkM M W cp bp bm sp lp pp dp qp mp blocks frames B m':=by
  obtain⟨R,h⟩:=h
  obtain⟨Rb,sl,hb⟩:=h.b
  refine⟨R,hc,⟨Rb,sl,hb.but ho (fun hr=>(h.r cp (hb.r cp hr).1).2 rfl) ?_ (fun e=>(h.r bp hb.low.1).2 e.symm) (fun e=>(h.r bm hb.low.2).2 e.symm) ?_⟩,h.r,h.low⟩
  · rw[tag_of h.box];decide
  · rw[tag_of h.box];decide
theorem kp_turn {M:Nat→Prop}{w w1 W:World}{cp:Nat}{c:Array Value}(h:Kp M w w1)(hM:M cp)(hc:w.heap[cp]? = some (.cells c 86 (0,0)))(hb:W.os=w1.os∧W.tape=w1.tape∧W.output=w1.output∧W.heap.size=w1.heap.size)(ho : ∀j,j≠cp→W.heap[j]? = w1.heap[j]?):Kp M w W:=by
  obtain⟨b1,b2,b3,b4⟩:=hb
  refine⟨b1.trans h.os,b2.trans h.tape,b3.trans h.output,by rw[b4];exact h.size,fun k hk hn => ?_,fun k hk ht => ?_⟩
  · exact (ho k fun e=>hn (by rw[e];exact hM)).trans (h.block k hk hn)
  · refine (ho k fun e => ?_).trans (h.ent k hk ht)
    subst e
    rw[tag_of hc] at ht
    revert ht
    decide
end Go.Proofs.YtaplpeoikebedaaGreatDoor.CkptC
namespace Go.Proofs.YtaplpeoikebedaaGreatDoor.ResetD
open Go.RowKit See Mem Page PageB PageR PageL Disk DiskW RecD Dirty Dirty2 Wal WalF PoolG PoolS PoolA SysD SysM Fresh FlushG Pager StoreD PageM StoreF StoreI StoreJ MasC MasT CkptD CkptK
def anewL (L:Lg)(ba ep:Int):Lg:=⟨L.first,L.blocks,ba,ep,[],0⟩
def resS (S:PSys)(m:Mst):PSys:={ S with l:=anewL S.l m.base m.epoch,d:=keepD S.d m }
def resF (F:FS)(S:PSys)(m:Mst):FS:={ F with S:=resS S m,free:=(anewL S.l m.base m.epoch).room,kept:=0 }
theorem res_cur {N:Nat}{S:PSys}{m:Mst}(h:GoodD.Good S.d N)(hn:0<N){p:Int}(hp:1≤p):cur (resS S m) p=cur S p:=by
  obtain⟨_,k2,_⟩:=keep_good (m:=m) h hn
  unfold cur
  show (match findP S.here p with | some f=>(f.lsn,f.es) | none=>(readPage (readV (keepD S.d m) p)).getD (0,[]))=_
  rw[k2 p,if_neg (by omega)]
  rfl
theorem res_ok {N mm:Nat}{ch:Int→List Int}{kp:Int→Int}{F:FS}{S:PSys}{m:Mst}(h:FOk N mm ch kp { F with S:=S })(hts:F.ts=[])(hb:m.base=S.l.last)(he:1≤m.epoch∧m.epoch≤1073741824) :
    FOk N mm ch kp (resF F S m)∧(∀k,vals (resF F S m) k=vals { F with S:=S } k)∧(resF F S m).S.l.last=S.l.last∧(∀s∈(resF F S m).S.d.l,s.loose=[]):=by
  have hg:=h.g
  have hp:=hg.pg
  have hN:0<N:=by have:=hp.len;have:=hp.pages;omega
  obtain⟨k1,k2,k3⟩:=keep_good (m:=m) hp.good hN
  have hlk:=hg.lok
  have hl1:=hlk.base
  have hl2:=hlk.last
  have hlast:S.l.last=S.l.base+(S.l.l.length:Int):=rfl
  have hla:(anewL S.l m.base m.epoch).last=S.l.last:=by
    unfold anewL Lg.last
    rw[hb]
    show S.l.last+((0:Nat):Int)=_
    unfold Lg.last
    omega
  have hcur : ∀p,1≤p→cur (resS S m) p=cur S p:=fun p p1=>res_cur hp.good hN p1
  have hvals : ∀k,vals (resF F S m) k=vals { F with S:=S } k:=fun k=>by
    obtain⟨p1,p2⟩:=placeOf_in k hp.pages
    unfold vals
    show val (cur (resS S m) (placeOf k F.P)).2 k=val (cur S (placeOf k F.P)).2 k
    rw[hcur _ p1]
  refine⟨⟨⟨⟨k1,hp.pages,hp.frames,hp.first,?_,Nat.le_refl 0,hp.few,hp.once,hp.here,hp.rise,fun d hd => ?_,fun k q1 q2 => ?_,fun f hf ht => ?_⟩,hg.fit,?_,?_,fun s hs => ?_,fun p p1 p2 => ?_,?_,hg.p32,?_⟩,⟨h.t.rise,h.t.ids,h.t.most,h.t.ofs,h.t.inj,h.t.on⟩,⟨fun x hx => ?_,fun x hx => ?_,fun x hx => ?_,?_,fun p p1 p2 l hn hl => ?_⟩⟩,hvals,hla,k3⟩
  · show S.l.first*6+((0:Nat):Int)≤N*6
    have:=hp.size
    have e:({ F with S:=S }:FS).S=S:=rfl
    rw[e] at this
    omega
  · obtain⟨a,b,c⟩:=hp.tab d hd
    exact⟨a,b,by show d.2≤(anewL S.l m.base m.epoch).last;rw[hla];exact c⟩
  · obtain⟨g,g1,g2⟩:=hp.disk k q1 q2
    exact⟨g,by show readV (keepD S.d m) k=_;rw[k2 k,if_neg (by omega)];exact g1,g2⟩
  · obtain⟨g1,_⟩:=hp.here f hf
    show readV (keepD S.d m) f.n=_
    rw[k2 f.n,if_neg (by omega)]
    exact hp.same f hf ht
  · refine⟨hlk.first,hlk.blocks,?_,he,?_,?_,Nat.le_refl 0,fun r hr=>(List.not_mem_nil hr).elim⟩
    · show 0≤m.base∧m.base≤_
      have e:({ F with S:=S }:FS).S=S:=rfl
      rw[e] at hl1 hl2
      omega
    · show ((0:Nat):Int)≤S.l.blocks*6
      have:=hlk.blocks
      have e:({ F with S:=S }:FS).S=S:=rfl
      rw[e] at this
      omega
    · show m.base+((0:Nat):Int)≤_
      have e:({ F with S:=S }:FS).S=S:=rfl
      rw[e] at hl1 hl2
      omega
  · have e:(keepD S.d m).fuse = -1:=k1.fuse
    show -1≤(keepD S.d m).fuse∧(keepD S.d m).fuse≤_
    rw[e]
    omega
  · have:s.loose=[]:=k3 s hs
    rw[this]
    exact Nat.zero_le _
  · show (cur (resS S m) p).1≤(anewL S.l m.base m.epoch).last
    rw[hcur p p1,hla]
    exact hg.lsn p p1 p2
  · intro r hr
    exact (List.not_mem_nil hr).elim
  · show 0≤(anewL S.l m.base m.epoch).room∧(0:Int)≤0∧(anewL S.l m.base m.epoch).room+0=(anewL S.l m.base m.epoch).room
    refine⟨?_,Int.le_refl 0,by omega⟩
    unfold Lg.room
    omega
  · have hx':x∈F.ts:=hx
    rw[hts] at hx'
    exact (List.not_mem_nil hx').elim
  · have hx':x∈F.ts:=hx
    rw[hts] at hx'
    exact (List.not_mem_nil hx').elim
  · have hx':x∈F.ts:=hx
    rw[hts] at hx'
    exact (List.not_mem_nil hx').elim
  · show (0:Int)=(F.ts.map _).sum
    rw[hts]
    rfl
  · show (cur (resS S m) p).2.length+l.length≤20
    rw[hcur p p1]
    cases l with
    | nil=>exact h.c.cap p p1 p2 [] List.nodup_nil fun k hk=>(List.not_mem_nil hk).elim
    | cons k l=>
      obtain⟨_,_,x,hx,_⟩:=hl k List.mem_cons_self
      have hx':x∈F.ts:=hx
      rw[hts] at hx'
      exact (List.not_mem_nil hx').elim
end Go.Proofs.YtaplpeoikebedaaGreatDoor.ResetD
namespace Go.Proofs.YtaplpeoikebedaaGreatDoor.WalA
open Go.RowKit Go.Maps YtaplpeoikebedaaGreatDoorW.PrintWords YtaplpeoikebedaaGreatDoorW.PrintLast YtaplpeoikebedaaGreatDoorW.PrintMore
open See Mem Page Disk DiskW RecD Wal WalF Pool2 Pool3 SysD SysM StoreD StoreF SpaceT TransT LockT LockU FwdM FwdP MasC ResetD
attribute [local go_sem] max2_imax min2_imin max_two min_two
def logPut (w:World)(lp dp:Nat)(f bl ba ep:Int):World:=((((((w.setCell ⟨lp,0,none⟩ (.pointer (some ⟨dp,0,none⟩))).setCell ⟨lp,1,none⟩ (.int .i64 f)).setCell ⟨lp,2,none⟩ (.int .i64 bl)).setCell ⟨lp,3,none⟩ (.int .i64 ba)).setCell ⟨lp,4,none⟩ (.int .i64 ep)).setCell ⟨lp,5,none⟩ (.slice none 0 0)).setCell ⟨lp,6,none⟩ (.int .i64 0)
theorem logPut_ok {w:World}{lp dp:Nat}{f bl ba ep f0 bl0 ba0 ep0:Int}{v0:Value}{dn0:Int}(h:w.heap[lp]? = some (.cells (logCells dp f0 bl0 ba0 ep0 v0 dn0) 121 (0,0))) :
    (logPut w lp dp f bl ba ep).heap[lp]? = some (.cells (logCells dp f bl ba ep (.slice none 0 0) 0) 121 (0,0))∧(∀j,j≠lp→(logPut w lp dp f bl ba ep).heap[j]? = w.heap[j]?)∧(logPut w lp dp f bl ba ep).heap.size=w.heap.size∧Below 0 w (logPut w lp dp f bl ba ep):=by
  have g0:=heap_setCell_same w lp 0 _ _ (.pointer (some ⟨dp,0,none⟩)) h
  have g1:=heap_setCell_same _ lp 1 _ _ (.int .i64 f) g0
  have g2:=heap_setCell_same _ lp 2 _ _ (.int .i64 bl) g1
  have g3:=heap_setCell_same _ lp 3 _ _ (.int .i64 ba) g2
  have g4:=heap_setCell_same _ lp 4 _ _ (.int .i64 ep) g3
  have g5:=heap_setCell_same _ lp 5 _ _ (.slice none 0 0) g4
  have g6:=heap_setCell_same _ lp 6 _ _ (.int .i64 0) g5
  have hB:(0:Nat)≤lp:=Nat.zero_le _
  refine⟨g6,fun j hj => ?_,by unfold logPut;simp[World.setCell],((((((((Below.refl _ _).setCell hB _).setCell hB _).setCell hB _).setCell hB _).setCell hB _).setCell hB _).setCell hB _)⟩
  unfold logPut
  rw[Below.heap_setCell _ _ _ _ hj,Below.heap_setCell _ _ _ _ hj,Below.heap_setCell _ _ _ _ hj,Below.heap_setCell _ _ _ _ hj,Below.heap_setCell _ _ _ _ hj,Below.heap_setCell _ _ _ _ hj,Below.heap_setCell _ _ _ _ hj]
theorem log_cells {w:World}{lp dp:Nat}{f bl ba ep:Int}{v:Value}{dn:Int}(h:w.heap[lp]? = some (.cells (logCells dp f bl ba ep v dn) 121 (0,0))):w.cell? ⟨lp,0,none⟩=some (.pointer (some ⟨dp,0,none⟩))∧w.cell? ⟨lp,1,none⟩=some (.int .i64 f)∧w.cell? ⟨lp,2,none⟩=some (.int .i64 bl)∧w.cell? ⟨lp,3,none⟩=some (.int .i64 ba)∧w.cell? ⟨lp,4,none⟩=some (.int .i64 ep)∧w.cell? ⟨lp,5,none⟩=some v∧w.cell? ⟨lp,6,none⟩=some (.int .i64 dn):=by
  refine⟨?_,?_,?_,?_,?_,?_,?_⟩<;>simp[World.cell?,h,logCells]
theorem log3 {w:World}{lp dp:Nat}{f0 bl0 ba0 ep0 f bl:Int}{v0:Value}{dn0:Int}(h:w.heap[lp]? = some (.cells (logCells dp f0 bl0 ba0 ep0 v0 dn0) 121 (0,0)))(e1:f0=f)(e2:bl0=bl):w.cell? ⟨lp,0,none⟩=some (.pointer (some ⟨dp,0,none⟩))∧w.cell? ⟨lp,1,none⟩=some (.int .i64 f)∧w.cell? ⟨lp,2,none⟩=some (.int .i64 bl):=by
  subst e1 e2
  obtain⟨a,b,c,_⟩:=log_cells h
  exact⟨a,b,c⟩
theorem log3b {w:World}{lp dp:Nat}{f0 bl0 ba0 ep0 f bl ba ep:Int}{v0:Value}{dn0:Int}(h:w.heap[lp]? = some (.cells (logCells dp f0 bl0 ba0 ep0 v0 dn0) 121 (0,0))):(logPut w lp dp f bl ba ep).cell? ⟨lp,0,none⟩=some (.pointer (some ⟨dp,0,none⟩))∧(logPut w lp dp f bl ba ep).cell? ⟨lp,1,none⟩=some (.int .i64 f)∧(logPut w lp dp f bl ba ep).cell? ⟨lp,2,none⟩=some (.int .i64 bl):=log3 (logPut_ok h).1 rfl rfl
theorem anew_log (M:Nat→Prop)(lp dp:Nat)(v:Value)(L:Lg)(ba ep:Int)(w:World)(hl:LogM M w lp dp v L)(hok:(anewL L ba ep).Ok) :
    Calls Tryz.prog 161 #[.pointer (some ⟨lp,0,none⟩),.int .i64 ba,.int .i64 ep] w fun e w'=>e = .returned (.tuple #[])∧LogM M w' lp dp (.slice none 0 0) (anewL L ba ep)∧Frm lTurn M w w':=by
  obtain⟨c0,c1,c2,c3,c4,c5,c6⟩:=hl.cells
  have HL:=Aside0.mk hl
  have HOK:=Aside0.mk hok
  have hll:=heap_lt hl.box
  obtain⟨f,hf⟩ : ∃f,L.first=f:=⟨_,rfl⟩
  obtain⟨bl,hbl⟩ : ∃f,L.blocks=f:=⟨_,rfl⟩
  have HF:=Aside0.mk (And.intro hf hbl)
  rw[hf] at c1
  rw[hbl] at c2
  clear hl hok hf hbl c3 c4 c5 c6
  go_enter Tryz.func161,Tryz.ntmps161
  go_region_law (first | (go_simp;go_at_call 56;refine (new_log dp f bl ba ep _).mono ?_;rintro e wa ⟨rfl,hwa⟩;have HWA:=Aside0.mk hwa;have hx:wa.heap[w.heap.size]? = some (.cells (logCells dp f bl ba ep (.slice none 0 0) 0) 121 (0,0)):=(by rw[hwa];exact heap_alloc_new _ _);obtain⟨z0,z1,z2,z3,z4,z5,z6⟩:=log_cells hx;have hxl:=heap_lt hx;have hbx:wa.heap[lp]? = w.heap[lp]? := (by rw[hwa];exact Below.heap_alloc _ _ _ hll);have hfz : ∀j,wa.frozen? ⟨lp,j,none⟩=false:=(fun j=>by simp[World.frozen?,hbx,HL.out.box]);have hlw:lp<wa.heap.size:=(by omega);have HBX:=Aside0.mk (hbx.trans HL.out.box);have KA:=Aside0.mk (log3 HBX.out HF.out.1 HF.out.2);have KB:=Aside0.mk (log3b (f:=f) (bl:=bl) (ba:=ba) (ep:=ep) HBX.out);unfold logPut at KB;obtain⟨y0,y1,y2,y3,y4,y5,y6⟩:=log_cells HBX.out;clear hwa hx hbx))
  all_goals
    go_wp2_with fail
    have hp:=logPut_ok (f:=f) (bl:=bl) (ba:=ba) (ep:=ep) HBX.out
    have HP:=Aside0.mk hp
    clear hp
    unfold logPut at HP
    go_end0
    refine⟨rfl,⟨?_,World.ownsRow_nil _ _ _ _,fun k hk=>(by cases hk),HL.out.mp,HOK.out⟩,?_⟩
    · rw[show (anewL L ba ep).first=f from HF.out.1,show (anewL L ba ep).blocks=bl from HF.out.2]
      exact HP.out.1
    · obtain⟨p1,p2,p3,p4⟩:=HP.out
      have hw:=HWA.out
      have hb1:Below w.heap.size w wa:=(by rw[hw];exact below_alloc (below_drew1 (Below.refl _ _)) _)
      refine⟨p4.os.trans hb1.os,p4.tape.trans hb1.tape,p4.output.trans hb1.output,by rw[p3];exact hb1.size,fun k hk hn => ?_⟩
      rw[p2 k (fun e => ?_)]
      · exact hb1.block k hk
      · subst e
        refine hn HL.out.mp ?_
        rw[tag_of HL.out.box]
        decide
theorem FwM.qp {M:Nat→Prop}{sp lp pp dp qp mp q:Nat}{blocks frames:Int}{F:FS}{w w':World}(h:FwM M w sp lp pp dp qp mp blocks frames F){fr kp:Int}(hq:Gr M w w' q)(hs:SpM w' q fr kp)(hf:Frm [118] M w w')(hc : ∀kv tv,w.heap[sp]? = some (.cells (fwCells F.P blocks frames F.sess lp pp kv tv F.most qp mp) 118 (0,0))→w'.heap[sp]? = some (.cells (fwCells F.P blocks frames F.sess lp pp kv tv F.most q mp) 118 (0,0))):FwPost M sp lp pp dp q mp blocks frames { F with free:=fr,kept:=kp } w w':=by
  obtain⟨⟨kv,tv,b1,b2,b3,b4,b5⟩,s,r,o,l1,l2,l3⟩:=h
  refine⟨⟨⟨kv,tv,hc kv tv b1,b2.frm hf (by decide),fun k hk=>.inl (b3 k hk),b4.frm hf (by decide),fun k hk=>.inl (b5 k hk)⟩,?_,hs,o.frm hf (by decide),.inl l1,hq,.inl l3⟩,.of_frm hf (by decide)⟩
  obtain⟨h1,⟨v,h2⟩,⟨u,hv,fs,h3,h4⟩,h5,h6,h7,h8⟩:=s
  exact SysM.mono ⟨h1.frm hf (by decide),⟨v,h2.frm hf (by decide)⟩,⟨u,hv,fs,TabM.frm h3 hf (by decide) (by decide),h4.frm hf (by decide) (by decide)⟩,h5,h6,h7,h8⟩ fun _ h=>.inl h
theorem fanew_calls (M:Nat→Prop)(sp lp pp dp qp mp:Nat)(blocks frames:Int)(F:FS)(ba ep:Int)(w:World)(h:FwM M w sp lp pp dp qp mp blocks frames F)(hok:(anewL F.S.l ba ep).Ok) :
    Calls Tryz.prog 109 #[.pointer (some ⟨sp,0,none⟩),.int .i64 ba,.int .i64 ep] w fun e w'=>e = .returned (.tuple #[])∧∃q,FwPost M sp lp pp dp q mp blocks frames { F with S:={ F.S with l:=anewL F.S.l ba ep },free:=(anewL F.S.l ba ep).room,kept:=0 } w w':=by
  obtain⟨c0,c3,c4,c5,c7,c9,c10,c11⟩:=h.cells
  obtain⟨v,hl⟩:=h.sys.log
  have HA:=Aside0.mk (anew_log M lp dp v F.S.l ba ep w hl hok)
  have HF:=Aside0.mk h
  have HOK:=Aside0.mk hok
  have hsl:sp<w.heap.size:=by obtain⟨kv,tv,b,_⟩:=h.box;exact heap_lt b
  clear h hl hok c0 c3 c5 c7 c9 c10 c11
  go_enter Tryz.func109,Tryz.ntmps109
  go_wp2_with fail
  refine HA.out.mono ?_
  rintro e w1 ⟨rfl,hl1,hf1⟩
  have HL1:=Aside0.mk hl1
  have HP1:=Aside0.mk (FwM.lg HF.out ⟨_,hl1.mono fun _ h=>.inl h⟩ hf1)
  obtain⟨c0,c3,c4',c5,c7,c9,c10,c11⟩:=HP1.out.1.cells
  have hs1:w.heap.size≤w1.heap.size:=hf1.size
  clear hl1 hf1 c0 c3 c5 c7 c9 c11 c4 HA
  have hsl1:sp<w1.heap.size:=by omega
  go_wp2_with fail
  refine (room_log _ lp dp _ _ w1 HL1.out).mono ?_
  rintro e w2 ⟨rfl,hb2⟩
  have HB2:=Aside0.mk hb2
  obtain⟨rm,hrm⟩ : ∃r,(anewL F.S.l ba ep).room=r:=⟨_,rfl⟩
  have HRM:=Aside0.mk hrm
  rw[hrm]
  have hrb:0≤rm∧rm≤1073741824:=by
    rw[←hrm]
    unfold Lg.room
    have:=HOK.out.base
    unfold Lg.last
    omega
  clear hrm hb2 c4' c10
  go_wp2_with fail
  refine (new_space rm hrb.1 hrb.2 w2).mono ?_
  rintro e w3 ⟨rfl,rfl⟩
  have HF2:=Aside0.mk (FwM.below HP1.out.1 HB2.out)
  have HF3:=Aside0.mk (FwM.below HF2.out (below_alloc (Below.refl _ _) (.cells #[.int .i64 rm,.int .i64 0] 193)))
  obtain⟨d0,d3,d4,d5,d7,d9,d10,d11⟩:=HF3.out.cells
  have hfz:(w2.alloc (.cells #[.int .i64 rm,.int .i64 0] 193)).frozen? ⟨sp,10,none⟩=false:=by
    obtain⟨kv,tv,b,_⟩:=HF3.out.box
    simp[World.frozen?,b]
  have hsl3:sp<(w2.alloc (.cells #[.int .i64 rm,.int .i64 0] 193)).heap.size:=by
    obtain⟨kv,tv,b,_⟩:=HF3.out.box
    exact heap_lt b
  clear d0 d3 d4 d5 d7 d9 d11
  go_wp2_with fail
  go_end0
  refine⟨rfl,w2.heap.size,?_⟩
  obtain⟨W,hW⟩ : ∃W,(w2.alloc (.cells #[.int .i64 rm,.int .i64 0] 193)).setCell ⟨sp,10,none⟩ (.pointer (some ⟨w2.heap.size,0,none⟩))=W:=⟨_,rfl⟩
  rw[hW]
  have hs2:=HB2.out.size
  have hne:w2.heap.size≠sp:=by omega
  have hz:W.heap.size=w2.heap.size+1:=by
    have e : ∀(X:World) (a:Addr) (v:Value),(X.setCell a v).heap.size=X.heap.size:=fun X a v=>by simp[World.setCell]
    rw[←hW,e]
    exact Array.size_push ..
  have hb0:Below 0 w2 W:=by rw[←hW];exact (Below.mono (below_alloc (Below.refl w2.heap.size w2) _) (Nat.zero_le _)).setCell (Nat.zero_le _) _
  have hblk : ∀k,k<w2.heap.size→k≠sp→W.heap[k]? = w2.heap[k]? := fun k hk hn=>by
    rw[←hW,Below.heap_setCell _ _ _ _ hn]
    exact Below.heap_alloc _ _ _ hk
  have hsm:M sp:=HF.out.low.1
  have hq:=FwM.qp (q:=w2.heap.size) (fr:=rm) (kp:=0) (w':=W) HF2.out (.inr ⟨Nat.le_refl _,by omega⟩) (by
    rw[←hW]
    unfold SpM
    rw[Below.heap_setCell _ _ _ _ hne]
    exact heap_alloc_new _ _) ⟨hb0.os,hb0.tape,hb0.output,by omega,fun k hk hn=>hblk k hk fun e=>by
      subst e
      refine hn (.inl hsm) ?_
      obtain⟨kv,tv,b,_⟩:=HF2.out.box
      rw[tag_of b]
      decide⟩ (fun kv tv b=>by
    have b3:(w2.alloc (.cells #[.int .i64 rm,.int .i64 0] 193)).heap[sp]? = _:=(Below.heap_alloc w2 _ _ (heap_lt b)).trans b
    rw[←hW]
    exact heap_setCell_same _ sp 10 _ _ (.pointer (some ⟨w2.heap.size,0,none⟩)) b3)
  rw[HRM.out]
  have hk2:=(HP1.out.step HB2.out).2
  refine⟨FwM.mono hq.1 fun j hj => ?_,hk2.transG (hq.2.wide fun k hk=>Gr.grow hs2 hk)⟩
  rcases hj with (hj | ⟨x,y⟩) | ⟨x,y⟩
  · exact .inl hj
  · exact .inr ⟨x,by omega⟩
  · exact .inr ⟨by omega,y⟩
end Go.Proofs.YtaplpeoikebedaaGreatDoor.WalA
