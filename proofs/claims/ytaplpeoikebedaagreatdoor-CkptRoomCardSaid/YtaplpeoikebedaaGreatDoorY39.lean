/- Joined texts: CkptP, CkptW, CkptC, ResetD, RoundD. No condition but what each says. -/
import Derived.Test.YtaplpeoikebedaaGreatDoorY38
import Derived.Test.YtaplpeoikebedaaGreatDoorY34
import Derived.Test.YtaplpeoikebedaaGreatDoorY28
import Derived.Test.YtaplpeoikebedaaGreatDoorY35
set_option maxHeartbeats 8000000
set_option maxRecDepth 100000
set_option linter.unusedVariables false
set_option linter.unusedSimpArgs false
namespace Go.Proofs.YtaplpeoikebedaaGreatDoor.CkptP
open Go.RowKit See Mem Page PageB PageR PageL Disk DiskW RecD BlockB Dirty Wal WalF SysD SysM FlushG Pager StoreD StoreF StoreG StoreI StoreK MasC MasT CkptK CkptR
theorem rs_at {w:World}{b:Nat}{A:Option Addr}{n c:Nat}{l:List RecV}(h:RS w b (.slice A n c) l){i:Nat}{r:RecV}(hi:l[i]? = some r) :
    ∃ g, A = some ⟨g, 0, none⟩ ∧ b ≤ g ∧ n = l.length ∧ g < w.heap.size ∧ w.cell? ⟨g, i * 10, none⟩ = some (.int .i64 r.kind) ∧ w.cell? ⟨g, i * 10 + 1, none⟩ = some (.int .i64 r.txn) ∧ w.cell? ⟨g, i * 10 + 2, none⟩ = some (.int .i64 r.page) ∧ w.cell? ⟨g, i * 10 + 3, none⟩ = some (.int .i64 r.prev) ∧ w.cell? ⟨g, i * 10 + 4, none⟩ = some (.int .i64 r.next) ∧
      w.cell? ⟨g,i*10+5,none⟩=some (.int .i64 r.key)∧w.cell? ⟨g,i*10+6,none⟩=some (.bool r.had)∧w.cell? ⟨g,i*10+7,none⟩=some (.bool r.has)∧w.cell? ⟨g,i*10+8,none⟩=some (.int .i64 r.old)∧w.cell? ⟨g,i*10+9,none⟩=some (.int .i64 r.new):=by
  have hlt:=(List.getElem?_eq_some_iff.1 hi).1
  rcases h.2 with ⟨hv,h0⟩ | ⟨g,cap,cur,hv,hg,hh,hnc,hcm,hsz,htk⟩
  · omega
  · injection hv with h1 h2 h3
    subst h1
    have key : ∀j u,j<10→(recL r)[j]? = some u→w.cell? ⟨g,i*10+j,none⟩=some u:=fun j u hj hu=>by
      have e:=recCells_at l i r j hi hj
      rw[←htk,List.getElem?_take,if_pos (by omega),hu] at e
      simp only[World.cell?,hh]
      simpa using e
    exact⟨g,rfl,hg,h2,heap_lt hh,key 0 _ (by omega) rfl,key 1 _ (by omega) rfl,key 2 _ (by omega) rfl,key 3 _ (by omega) rfl,key 4 _ (by omega) rfl,key 5 _ (by omega) rfl,key 6 _ (by omega) rfl,key 7 _ (by omega) rfl,key 8 _ (by omega) rfl,key 9 _ (by omega) rfl⟩
def addL (S:PSys)(rs:List RecV):PSys:={ S with l:={ S.l with l:=S.l.l++rs } }
theorem addL_nil (S:PSys):addL S []=S:=by unfold addL;simp
theorem addL_push (S:PSys)(rs:List RecV)(r:RecV):addL S (rs++[r])=addRec (addL S rs) r:=by unfold addL addRec;simp
theorem addL_ok {N m:Nat}{F:FS}(h:GOk N m F){rs:List RecV}(hr : ∀r∈rs,recOk r=true∧is64 r.old∧is64 r.new)(hroom:(rs.length:Int)≤F.S.l.room) : ∀i:Nat,i≤rs.length→GOk N m { F with S:=addL F.S (rs.take i),free:=F.S.l.room - i,kept:=0 }∧(addL F.S (rs.take i)).l.room=F.S.l.room - i
  | 0,_=>by
    obtain⟨ro1,ro2,ro3⟩:=h.room
    rw[List.take_zero,addL_nil]
    exact⟨⟨h.pg,h.fit,h.lok,h.fuse,h.loose,h.lsn,h.six,h.p32,by push_cast;omega,Int.le_refl 0,by push_cast;show F.S.l.room - 0+0=F.S.l.room;omega⟩,by push_cast;omega⟩
  | i+1,hi=>by
    obtain⟨q,q2⟩:=addL_ok h hr hroom i (by omega)
    obtain⟨r,hr2⟩ : ∃r,rs[i]? = some r:=⟨_,List.getElem?_eq_getElem (by omega)⟩
    obtain⟨o1,o2⟩:=hr r (List.mem_of_getElem? hr2)
    have ho:=q.rec_ (fr:=F.S.l.room - (i+1:Nat)) (kp:=0) o1 o2 (by show 1≤(addL F.S (rs.take i)).l.room;rw[q2];omega) (by push_cast;omega) (Int.le_refl 0) (by show _=(addL F.S (rs.take i)).l.room - 1;rw[q2];push_cast;omega)
    rw[take_push hr2,addL_push]
    refine⟨ho,?_⟩
    have:=ho.room.2.2
    show (addRec (addL F.S (rs.take i)) r).l.room=_
    have e:(F.S.l.room - ((i+1:Nat):Int))+0=(addRec (addL F.S (rs.take i)) r).l.room:=this
    omega
def wrS (S:PSys)(rs:List RecV)(m:Mst):PSys:={ addL S rs with l:={ (addL S rs).l with done:=(addL S rs).l.l.length },d:=keepD (lflush (addL S rs).l S.d).2.1 m }
structure WrIn (S:PSys) (rs:List RecV) (m:Mst) (n mm:Nat):Prop where
  app : ∀i r,rs[i]? = some r→appendE (addL S (rs.take i)).l r=none∧appendL (addL S (rs.take i)).l r=(addL S (rs.take (i+1))).l
  fl:(lflush (addL S rs).l S.d).2.2=none∧(lflush (addL S rs).l S.d).1={ (addL S rs).l with done:=(addL S rs).l.l.length }
  good:GoodD.Good (lflush (addL S rs).l S.d).2.1 n
  few:LooseLe (lflush (addL S rs).l S.d).2.1 mm
  fuse:FuseOk S.d
  loose:LooseLe S.d mm
theorem wr_in {N mm:Nat}{F:FS}(h:GOk N mm F){rs:List RecV}{m:Mst}(hr : ∀r∈rs,recOk r=true∧is64 r.old∧is64 r.new)(hroom:(rs.length:Int)≤F.S.l.room):WrIn F.S rs m N mm:=by
  obtain⟨q,q2⟩:=addL_ok h hr hroom rs.length (Nat.le_refl _)
  rw[List.take_length] at q q2
  obtain⟨d',e1,e2,e3⟩:=pg_log q.pg
  have e1':lflush (addL F.S rs).l F.S.d=({ (addL F.S rs).l with done:=(addL F.S rs).l.l.length },d',none):=e1
  have hlo:=lflush_tight q.pg.good (by have:=q.lok.first;omega) q.pg.size q.loose
  have hlo':LooseLe (lflush (addL F.S rs).l F.S.d).2.1 mm:=hlo
  refine⟨fun i r hi => ?_,by rw[e1'];exact⟨rfl,rfl⟩,by rw[e1'];exact e2.good,hlo',h.fuse,h.loose⟩
  obtain⟨p,p2⟩:=addL_ok h hr hroom i (by have:=(List.getElem?_eq_some_iff.1 hi).1;omega)
  have hlt:=(List.getElem?_eq_some_iff.1 hi).1
  obtain⟨a1,a2,a3⟩:=append_room (hr r (List.mem_of_getElem? hi)).1 (L:=(addL F.S (rs.take i)).l) (by rw[p2];omega)
  refine⟨a1,?_⟩
  rw[a3,take_push hi,addL_push]
  rfl
end Go.Proofs.YtaplpeoikebedaaGreatDoor.CkptP
namespace Go.Proofs.YtaplpeoikebedaaGreatDoor.CkptW
open Go.RowKit Go.Maps YtaplpeoikebedaaGreatDoorW.PrintWords YtaplpeoikebedaaGreatDoorW.PrintLast YtaplpeoikebedaaGreatDoorW.PrintMore
open See Mem Page PageR Disk DiskW DiskS RecD Rec RecC BlockB Wal WalF Pool2 SysD SysM StoreD StoreF TransT SpaceT FwdM FwdP MasC MasT CkptK CkptR CkptP
attribute [local go_sem] max2_imax min2_imin max_two min_two
theorem mst_cells {w:World}{b:Nat}{ep ba re ck pg bl fr:Int}(h:w.heap[b]? = some (.cells #[.int .i64 ep,.int .i64 ba,.int .i64 re,.int .i64 ck,.int .i64 pg,.int .i64 bl,.int .i64 fr] 84 (0,0))) :
    w.cell? ⟨b,0,none⟩=some (.int .i64 ep)∧w.cell? ⟨b,1,none⟩=some (.int .i64 ba)∧w.cell? ⟨b,2,none⟩=some (.int .i64 re)∧w.cell? ⟨b,3,none⟩=some (.int .i64 ck)∧w.cell? ⟨b,4,none⟩=some (.int .i64 pg)∧w.cell? ⟨b,5,none⟩=some (.int .i64 bl)∧w.cell? ⟨b,6,none⟩=some (.int .i64 fr):=by
  refine⟨?_,?_,?_,?_,?_,?_,?_⟩<;>simp[World.cell?,h]
theorem write_calls (a:Nat→Addr)(M:Nat→Prop)(sp lp pp dp qp mp:Nat)(blocks frames:Int)(F:FS)(m:Mst)(most:Int)(vt vd:Value)(ts:List Tx)(ds:List (Int×Int))(n mm:Nat)(w:World)(h:FwM M w sp lp pp dp qp mp blocks frames F)(ht:TR w vt ts)(hd:P2 w 288 vd ds)(h1:ts.length≤10000)(h2:ds.length≤10000)(hin:WrIn F.S (recsL most ts ds) { m with ckpt:=F.S.l.last+1 } n mm)
    (hrec : ∀r∈recsL most ts ds,recOk r=true) (hroom:((recsL most ts ds).length:Int)≤F.S.l.room) (hlast:0≤F.S.l.last∧F.S.l.last≤1073741823) (hmo:MOk { m with ckpt:=F.S.l.last+1 }) (hn:0<n) (hmm:mm≤40000) (hs:SentsAll w a) (hO:OutAll M a) :
    Calls Tryz.prog 97 #[.pointer (some ⟨dp,0,none⟩),.pointer (some ⟨lp,0,none⟩),mstV m,.int .i64 most,vt,vd] w fun e w'=>e = .returned (.tuple #[mstV { m with ckpt:=F.S.l.last+1 },.nilIface])∧FwPost M sp lp pp dp qp mp blocks frames { F with S:=wrS F.S (recsL most ts ds) { m with ckpt:=F.S.l.last+1 } } w w':=by
  obtain⟨la,hla⟩ : ∃la,F.S.l.last=la:=⟨_,rfl⟩
  have HLA:=Aside0.mk hla
  rw[hla] at hin hlast hmo ⊢
  obtain⟨rs,hrs⟩ : ∃rs,recsL most ts ds=rs:=⟨_,rfl⟩
  have HRSL:=Aside0.mk (show ∀V,Below w.heap.size w V→Calls Tryz.prog 150 #[.int .i64 most,vt,vd] V fun e w' => ∃v,e = .returned v∧RS w' V.heap.size v rs∧Below V.heap.size V w' from fun V hb=>by rw[←hrs];exact records_calls most vt vd ts ds V (ht.below hb) (hd.below hb) h1 h2)
  have hrl:rs.length≤30000:=by rw[←hrs];unfold recsL;simp;omega
  rw[hrs] at hin hrec hroom ⊢
  obtain⟨nr,hnr⟩ : ∃n,rs.length=n:=⟨_,rfl⟩
  have HNR:=Aside0.mk hnr
  have hwl:IntKind.i64.wrap (la+1)=la+1:=by rw[IntKind.wrap_i64];omega
  rw[hnr] at hroom hrl
  have HF:=Aside0.mk h
  have HIN:=Aside0.mk hin
  have HREC:=Aside0.mk hrec
  have HRM:=Aside0.mk hroom
  have HMO:=Aside0.mk hmo
  have HNN:=Aside0.mk hn
  have HMM:=Aside0.mk hmm
  have HS:=Aside0.mk hs
  have HO:=Aside0.mk hO
  obtain⟨At,ct,rfl,_⟩:=ow_slice ht.1
  obtain⟨Ad,cd,rfl,_⟩:=ow_slice hd.1
  obtain⟨nt,hnt⟩ : ∃n,ts.length=n:=⟨_,rfl⟩
  obtain⟨nd,hnd⟩ : ∃n,ds.length=n:=⟨_,rfl⟩
  rw[hnt] at HRSL ⊢
  rw[hnd] at HRSL ⊢
  clear h ht hd h1 h2 hin hrec hroom hmo hn hmm hs hO hla hrs hnr hnt hnd hlast
  obtain⟨ep,ba,re,ck,pg,bl,fr⟩:=m
  go_enter Tryz.func97,Tryz.ntmps97
  go_wp2_with fail
  refine (HRSL.out _ (by repeat (first | exact Below.refl _ _ | apply below_alloc))).mono ?_
  rintro e w1 ⟨v,rfl,hrs,hb⟩
  have HB1:=Aside0.mk (show Below w.heap.size w w1 from below_step (below_alloc (below_alloc (Below.refl _ _) _) _) hb)
  have H8:=Aside0.mk (show w1.heap[w.heap.size]? = some (.cells #[.int .i64 ep,.int .i64 ba,.int .i64 re,.int .i64 ck,.int .i64 pg,.int .i64 bl,.int .i64 fr] 84 (0,0)) from (hb.block _ (by rw[ValM.alloc_len,ValM.alloc_len];omega)).trans (ValM.alloc_after rfl (below_alloc (Below.refl _ _) _)))
  have H12:=Aside0.mk (show w1.heap[w.heap.size+1]? = some (.cells #[.int .i64 0,.int .i64 0,.int .i64 0,.int .i64 0,.int .i64 0,.int .i64 0,.int .i64 0] 84 (0,0)) from (hb.block _ (by rw[ValM.alloc_len,ValM.alloc_len];omega)).trans (ValM.alloc_after (ValM.alloc_len w _) (Below.refl _ _)))
  have HRS:=Aside0.mk (show RS w1 w.heap.size v rs from⟨hrs.1,by
    rcases hrs.2 with h | ⟨g,c,cu,q1,q2,q3⟩
    · exact .inl h
    · exact .inr ⟨g,c,cu,q1,by rw[ValM.alloc_len,ValM.alloc_len] at q2;omega,q3⟩⟩)
  obtain⟨Av,cv,hv,_⟩:=ow_slice hrs
  rw[HNR.out] at hv
  subst hv
  have HSS1:=Aside0.mk (HS.out.below HB1.out)
  clear hrs hb HRSL
  go_wp2_with fail
  go_loopg [31] (nr+1) (fun kq v31 w' => ∃(i:Int),v31 = .int .i64 i∧Aside0 (0≤i∧i≤nr∧(kq:Int)=nr+1 - i)∧Aside0 (Below w1.heap.size w1 w'))
  case atStart=>exact⟨0,rfl,⟨by omega,by omega,by omega⟩,⟨Below.refl _ _⟩⟩
  case round=>
    obtain⟨i,rfl,HI,HB⟩:=hrel
    have hi0:0≤i:=HI.out.1
    by_cases hlt:i<nr
    · obtain⟨r,hr⟩ : ∃r,rs[i.toNat]? = some r:=⟨_,List.getElem?_eq_getElem (by have:=HNR.out;omega)⟩
      obtain⟨g,rfl,hg,hll,hgl,d0,d1,d2,d3,d4,d5,d6,d7,d8,d9⟩:=rs_at (HRS.out.below HB.out) hr
      have HOK:=Aside0.mk (HREC.out r (List.mem_of_getElem? hr))
      obtain⟨rk,rt,rp,rv,rx,ry,rd,rh,ro,rn⟩:=r
      simp only at d0 d1 d2 d3 d4 d5 d6 d7 d8 d9
      have hce:errv a (recE ⟨rk,rt,rp,rv,rx,ry,rd,rh,ro,rn⟩) = .nilIface:=by unfold recE;rw[HOK.out];rfl
      obtain⟨rm,hrm⟩ : ∃rm,F.S.l.room=rm:=⟨_,rfl⟩
      have hq:decide (rm≤i)=false:=decide_eq_false (by have:=HRM.out;omega)
      have HRMM:=Aside0.mk hrm
      have hwi:IntKind.i64.wrap (i+1)=i+1:=by rw[IntKind.wrap_i64];omega
      clear hr hg hll hrm
      go_wp2_with fail
      refine (check_calls a ⟨rk,rt,rp,rv,rx,ry,rd,rh,ro,rn⟩ _ (((HSS1.out.below HB.out).below (below_alloc (Below.refl _ _) _)).k _ (by decide))).mono ?_
      rintro e w2 ⟨rfl,hb⟩
      rw[hce]
      have HB2:=Aside0.mk (below_step HB.out (below_step (below_alloc (Below.refl wr.heap.size wr) _) hb))
      clear hb hce d0 d1 d2 d3 d4 d5 d6 d7 d8 d9 hgl
      have HRO:=Aside0.mk (by
        obtain⟨lv,hl⟩:=(HF.out.below (below_step HB1.out HB2.out)).sys.log
        have:=room_log _ lp dp lv _ w2 hl
        rw[HRMM.out] at this
        exact this)
      go_wp2_with fail
      refine HRO.out.mono ?_
      rintro e w3 ⟨rfl,hb⟩
      have HB3:=Aside0.mk (below_step HB2.out hb)
      clear hb HRO
      go_wp2_with fail
      go_roundg (gk - 1)
      case measure=>have:=HI.out;omega
      case rel=>exact⟨i+1,rfl,⟨by omega,by omega,by have:=HI.out;omega⟩,HB3⟩
    · have H8r:=Aside0.mk ((HB.out.block _ (heap_lt H8.out)).trans H8.out)
      obtain⟨x0,x1,x2,x3,x4,x5,x6⟩:=mst_cells H8r.out
      have hx8:=heap_lt H8r.out
      have HLS:=Aside0.mk (fun (V:World) (hb:Below wr.heap.size wr V)=>(show Calls Tryz.prog 24 #[.pointer (some ⟨lp,0,none⟩)] V fun e w'=>e = .returned (.int .i64 la)∧Below V.heap.size V w' from by
        obtain⟨lv,hl⟩:=(HF.out.below (below_step (below_step HB1.out HB.out) hb)).sys.log
        have:=last_log _ lp dp lv _ V hl
        rw[HLA.out] at this
        exact this))
      clear HI
      go_wp2_with fail
      refine (HLS.out _ (below_alloc (Below.refl _ _) _)).mono ?_
      rintro e w2 ⟨rfl,hb⟩
      have H18:=Aside0.mk (show w2.heap[wr.heap.size]? = some (.cells #[.int .i64 ep,.int .i64 ba,.int .i64 re,.int .i64 ck,.int .i64 pg,.int .i64 bl,.int .i64 fr] 84 (0,0)) from ValM.alloc_after rfl hb)
      have HB2:=Aside0.mk (below_step (below_step HB1.out HB.out) (below_step (below_alloc (Below.refl wr.heap.size wr) _) hb))
      have HB12:=Aside0.mk (below_step HB.out (below_step (below_alloc (Below.refl wr.heap.size wr) _) hb))
      obtain⟨b18,hb18⟩ : ∃b,wr.heap.size=b:=⟨_,rfl⟩
      have H18S:=Aside0.mk (show w1.heap.size≤b18 by rw[←hb18];exact HB.out.size)
      rw[hb18] at H18
      have y3:w2.cell? ⟨b18,3,none⟩=some (.int .i64 ck):=(mst_cells H18.out).2.2.2.1
      have yf:w2.frozen? ⟨b18,3,none⟩=false:=by simp[World.frozen?,H18.out]
      clear hb x0 x1 x2 x3 x4 x5 x6 hx8 HLS
      rw[hb18]
      clear hb18
      go_wp2_with fail
      obtain⟨V1,hV1⟩ : ∃V,w2.setCell ⟨b18,3,none⟩ (.int .i64 (la+1))=V:=⟨_,rfl⟩
      have HZ12:=Aside0.mk HB12.out.size
      have HBV1:=Aside0.mk (show Below w1.heap.size w1 V1 from by rw[←hV1];exact HB12.out.setCell H18S.out _)
      have HBV:=Aside0.mk (show Below w.heap.size w V1 from by rw[←hV1];exact HB2.out.setCell (by have:=HB1.out.size;have:=H18S.out;show w.heap.size≤b18;omega) _)
      have H18V:=Aside0.mk (show V1.heap[b18]? = some (.cells #[.int .i64 ep,.int .i64 ba,.int .i64 re,.int .i64 (la+1),.int .i64 pg,.int .i64 bl,.int .i64 fr] 84 (0,0)) from by rw[←hV1];exact heap_setCell_same w2 b18 3 _ _ _ H18.out)
      have H12V:=Aside0.mk ((HBV1.out.block _ (heap_lt H12.out)).trans H12.out)
      have HRSV:=Aside0.mk (HRS.out.below HBV1.out)
      have HL0:=Aside0.mk (LB.start HF.out HBV.out)
      have HB18W:=Aside0.mk (show w.heap.size≤b18 by have:=HB1.out.size;have:=H18S.out;omega)
      rw[hV1]
      clear hV1 y3 yf HB2 HB12 H18 H8r HB H8 H12 HRS HBV1
      go_loopg [56] (nr+1) (fun kq v56 w' => ∃(i:Int) (R:Nat→Prop),v56 = .int .i64 i∧Aside0 (0≤i∧i≤nr∧(kq:Int)=nr+1 - i)∧Aside0 (LB M sp lp pp dp qp mp blocks frames { F with S:=addL F.S (rs.take i.toNat) } w V1 R w'))
      case atStart=>exact⟨0,_,rfl,⟨by omega,by omega,by omega⟩,⟨by rw[show (0:Int).toNat=0 from rfl,List.take_zero,addL_nil];exact HL0.out⟩⟩
      case round=>
        clear HL0
        obtain⟨i,R,rfl,HI,HLB⟩:=hrel
        have hi0:0≤i:=HI.out.1
        have HRSW:=Aside0.mk (show RS wr w.heap.size (.slice Av nr cv) rs from ow_move HRSV.out fun k hk=>HLB.out.loc k (ow_block HRSV.out hk).1 (by obtain⟨_,c,hc⟩:=ow_block HRSV.out hk;exact heap_lt hc))
        by_cases hlt:i<nr
        · obtain⟨r,hr⟩ : ∃r,rs[i.toNat]? = some r:=⟨_,List.getElem?_eq_getElem (by have:=HNR.out;omega)⟩
          obtain⟨g,rfl,hg,hll,hgl,d0,d1,d2,d3,d4,d5,d6,d7,d8,d9⟩:=rs_at HRSW.out hr
          obtain⟨ap1,ap2⟩:=HIN.out.app _ _ hr
          have HAP:=Aside0.mk (fun (V:World) (hb:Below wr.heap.size wr V)=>(show Calls Tryz.prog 63 #[.pointer (some ⟨lp,0,none⟩),recV r] V fun e w' => ∃k,e = .returned (.tuple #[.int .i64 k,.nilIface])∧∃R',LB M sp lp pp dp qp mp blocks frames { F with S:=addL F.S (rs.take (i.toNat+1)) } w V1 R' w' from by
            have hl:=HLB.out.below hb
            obtain⟨hs1,ho1⟩:=hl.sents HS.out HO.out
            obtain⟨lv,hlg⟩:=hl.f.sys.log
            refine (append_log a R lp dp lv _ r V (hs1.k _ (by decide)) hlg).mono ?_
            rintro e w' ⟨rfl,lv',hlog,hf⟩
            have hlog' : ∃v',LogM (Gr R V w') w' lp dp v' (addL F.S (rs.take (i.toNat+1))).l:=⟨lv',by rw[←ap2];exact hlog⟩
            refine⟨_,by rw[show appendE ({ F with S:=addL F.S (rs.take i.toNat) }:FS).S.l r=none from ap1];rfl,_,hl.step (FwM.lg hl.f hlog' hf)⟩))
          obtain⟨rk,rt,rp,rv,rx,ry,rd,rh,ro,rn⟩:=r
          simp only at d0 d1 d2 d3 d4 d5 d6 d7 d8 d9
          simp only[recV] at HAP
          have hwi:IntKind.i64.wrap (i+1)=i+1:=by rw[IntKind.wrap_i64];omega
          clear hr hg hll ap1 ap2
          go_wp2_with fail
          refine (HAP.out _ (below_alloc (Below.refl _ _) _)).mono ?_
          rintro e w3 ⟨k,rfl,R3,hl3⟩
          have HL3:=Aside0.mk hl3
          clear hl3 d0 d1 d2 d3 d4 d5 d6 d7 d8 d9 hgl HAP
          go_wp2_with fail
          go_roundg (gk - 1)
          case measure=>have:=HI.out;omega
          case rel=>exact⟨i+1,R3,rfl,⟨by omega,by omega,by have:=HI.out;omega⟩,⟨by rw[show (i+1).toNat=i.toNat+1 by omega];exact HL3.out⟩⟩
        · have HLE:=Aside0.mk (show LB M sp lp pp dp qp mp blocks frames { F with S:=addL F.S rs } w V1 R wr from by
            have:=HLB.out
            rw[List.take_of_length_le (by have:=HNR.out;have:=HI.out;omega)] at this
            exact this)
          clear HI HLB HRSW
          have HFL:=Aside0.mk (show Calls Tryz.prog 76 #[.pointer (some ⟨lp,0,none⟩)] wr fun e w'=>e = .returned .nilIface∧∃R',LB M sp lp pp dp qp mp blocks frames { F with S:={ addL F.S rs with l:={ (addL F.S rs).l with done:=(addL F.S rs).l.l.length },d:=(lflush (addL F.S rs).l F.S.d).2.1 } } w V1 R' w' from by
            have hl:=HLE.out
            obtain⟨hs1,ho1⟩:=hl.sents HS.out HO.out
            obtain⟨lv,hlg⟩:=hl.f.sys.log
            obtain⟨f1,f2⟩:=HIN.out.fl
            refine (flush_log a R lp dp lv _ F.S.d wr (hs1.k _ (by decide)) (ho1.k _ (by decide)) hl.f.sys.dsk hlg HIN.out.fuse (HIN.out.loose.mono (by have:=HMM.out;omega))).mono ?_
            rintro e w' ⟨rfl,hd,hlog,hf⟩
            have f1':(lflush ({ F with S:=addL F.S rs }:FS).S.l F.S.d).2.2=none:=f1
            have f2':(lflush ({ F with S:=addL F.S rs }:FS).S.l F.S.d).1={ (addL F.S rs).l with done:=(addL F.S rs).l.l.length }:=f2
            have hlog' : ∃v',LogM (Gr R wr w') w' lp dp v' { (addL F.S rs).l with done:=(addL F.S rs).l.l.length }:=by
              obtain⟨v',hlg2⟩:=hlog
              exact⟨v',by rw[←f2'];exact hlg2⟩
            refine⟨by rw[f1'];rfl,_,hl.step (FwM.sy hl.f (SysM.logd hl.f.sys hd hlog' hf (by unfold FuseOk;rw[HIN.out.good.fuse];omega)) (frm_sys2 hf))⟩)
          go_wp2_with fail
          refine HFL.out.mono ?_
          rintro e w3 ⟨rfl,R3,hl3⟩
          have HL3:=Aside0.mk hl3
          have H18W:=Aside0.mk (hl3.at H18V.out HB18W.out)
          obtain⟨x0,x1,x2,x3,x4,x5,x6⟩:=mst_cells H18W.out
          have hx8:=heap_lt H18W.out
          clear hl3 HFL HLE
          have HKE:=Aside0.mk (show Calls Tryz.prog 108 #[.pointer (some ⟨dp,0,none⟩),mstV ⟨ep,ba,re,la+1,pg,bl,fr⟩] w3 fun e w'=>e = .returned .nilIface∧∃R',LB M sp lp pp dp qp mp blocks frames { F with S:=wrS F.S rs ⟨ep,ba,re,la+1,pg,bl,fr⟩ } w V1 R' w' from by
            have hl:=HL3.out
            obtain⟨hs1,ho1⟩:=hl.sents HS.out HO.out
            refine (keep_calls a R3 dp _ ⟨ep,ba,re,la+1,pg,bl,fr⟩ n w3 (hs1.k _ (by decide)) (ho1.k _ (by decide)) hl.f.sys.dsk HIN.out.good HNN.out HMO.out (fun s hs=>Nat.le_trans (HIN.out.few s hs) (by have:=HMM.out;omega))).mono ?_
            rintro e w' ⟨rfl,hd,hf⟩
            exact⟨rfl,_,hl.step (FwM.sy hl.f (SysM.disk hl.f.sys hd hf (by unfold FuseOk;rw[(keep_good HIN.out.good HNN.out).1.fuse];omega)) (frm_sys1 hf))⟩)
          go_wp2_with fail
          refine HKE.out.mono ?_
          rintro e w4 ⟨rfl,R4,hl4⟩
          have HL4:=Aside0.mk hl4
          have H18X:=Aside0.mk (hl4.at H18V.out HB18W.out)
          have H12X:=Aside0.mk (hl4.at H12V.out (by omega))
          clear hl4 HKE x0 x1 x2 x3 x4 x5 x6 hx8
          obtain⟨x0,x1,x2,x3,x4,x5,x6⟩:=mst_cells H18X.out
          obtain⟨z0,z1,z2,z3,z4,z5,z6⟩:=mst_cells H12X.out
          have hx8:=heap_lt H18X.out
          have hx12:=heap_lt H12X.out
          have hfz : ∀j,w4.frozen? ⟨w.heap.size+1,j,none⟩=false:=fun j=>by simp[World.frozen?,H12X.out]
          have g0:=heap_setCell_same w4 (w.heap.size+1) 0 _ _ (.int .i64 ep) H12X.out
          have g1:=heap_setCell_same _ (w.heap.size+1) 1 _ _ (.int .i64 ba) g0
          have g2:=heap_setCell_same _ (w.heap.size+1) 2 _ _ (.int .i64 re) g1
          have g3:=heap_setCell_same _ (w.heap.size+1) 3 _ _ (.int .i64 (la+1)) g2
          have g4:=heap_setCell_same _ (w.heap.size+1) 4 _ _ (.int .i64 pg) g3
          have g5:=heap_setCell_same _ (w.heap.size+1) 5 _ _ (.int .i64 bl) g4
          have g6:=heap_setCell_same _ (w.heap.size+1) 6 _ _ (.int .i64 fr) g5
          have hB:Below w.heap.size w4 (((((((w4.setCell ⟨w.heap.size+1,0,none⟩ (.int .i64 ep)).setCell ⟨w.heap.size+1,1,none⟩ (.int .i64 ba)).setCell ⟨w.heap.size+1,2,none⟩ (.int .i64 re)).setCell ⟨w.heap.size+1,3,none⟩ (.int .i64 (la+1))).setCell ⟨w.heap.size+1,4,none⟩ (.int .i64 pg)).setCell ⟨w.heap.size+1,5,none⟩ (.int .i64 bl)).setCell ⟨w.heap.size+1,6,none⟩ (.int .i64 fr)):=by
            have hq:w.heap.size≤w.heap.size+1:=by omega
            exact ((((((((Below.refl _ _).setCell hq _).setCell hq _).setCell hq _).setCell hq _).setCell hq _).setCell hq _).setCell hq _)
          have hO : ∀j,j≠w.heap.size+1→(((((((w4.setCell ⟨w.heap.size+1,0,none⟩ (.int .i64 ep)).setCell ⟨w.heap.size+1,1,none⟩ (.int .i64 ba)).setCell ⟨w.heap.size+1,2,none⟩ (.int .i64 re)).setCell ⟨w.heap.size+1,3,none⟩ (.int .i64 (la+1))).setCell ⟨w.heap.size+1,4,none⟩ (.int .i64 pg)).setCell ⟨w.heap.size+1,5,none⟩ (.int .i64 bl)).setCell ⟨w.heap.size+1,6,none⟩ (.int .i64 fr)).heap[j]? = w4.heap[j]? := fun j hj=>by
            rw[Below.heap_setCell _ _ _ _ hj,Below.heap_setCell _ _ _ _ hj,Below.heap_setCell _ _ _ _ hj,Below.heap_setCell _ _ _ _ hj,Below.heap_setCell _ _ _ _ hj,Below.heap_setCell _ _ _ _ hj,Below.heap_setCell _ _ _ _ hj]
          have hZ:(((((((w4.setCell ⟨w.heap.size+1,0,none⟩ (.int .i64 ep)).setCell ⟨w.heap.size+1,1,none⟩ (.int .i64 ba)).setCell ⟨w.heap.size+1,2,none⟩ (.int .i64 re)).setCell ⟨w.heap.size+1,3,none⟩ (.int .i64 (la+1))).setCell ⟨w.heap.size+1,4,none⟩ (.int .i64 pg)).setCell ⟨w.heap.size+1,5,none⟩ (.int .i64 bl)).setCell ⟨w.heap.size+1,6,none⟩ (.int .i64 fr)).heap.size=w4.heap.size:=by simp[World.setCell]
          obtain⟨W,hW⟩ : ∃W,(((((((w4.setCell ⟨w.heap.size+1,0,none⟩ (.int .i64 ep)).setCell ⟨w.heap.size+1,1,none⟩ (.int .i64 ba)).setCell ⟨w.heap.size+1,2,none⟩ (.int .i64 re)).setCell ⟨w.heap.size+1,3,none⟩ (.int .i64 (la+1))).setCell ⟨w.heap.size+1,4,none⟩ (.int .i64 pg)).setCell ⟨w.heap.size+1,5,none⟩ (.int .i64 bl)).setCell ⟨w.heap.size+1,6,none⟩ (.int .i64 fr))=W:=⟨_,rfl⟩
          rw[hW] at g6 hB hO hZ
          have HW:=Aside0.mk hW
          have HG:=Aside0.mk (show W.heap[w.heap.size+1]? = some (.cells #[.int .i64 ep,.int .i64 ba,.int .i64 re,.int .i64 (la+1),.int .i64 pg,.int .i64 bl,.int .i64 fr] 84 (0,0)) from g6)
          have HBW:=Aside0.mk hB
          have HOW:=Aside0.mk hO
          have HZW:=Aside0.mk hZ
          clear g0 g1 g2 g3 g4 g5 g6 hB hO hZ hW
          go_wp2_with fail
          rw[HW.out]
          obtain⟨y0,y1,y2,y3,y4,y5,y6⟩:=mst_cells HG.out
          refine bodyPost_ret (v:=.tuple #[mstV ⟨ep,ba,re,la+1,pg,bl,fr⟩,.nilIface]) (by simp[results,Tryz.results97,go_sem,y0,y1,y2,y3,y4,y5,y6]) rfl ⟨rfl,?_,?_⟩
          · have hf:=Go.Proofs.YtaplpeoikebedaaGreatDoor.FwdT.FwM.but HL4.out.f (w':=W) (b:=w.heap.size+1) HOW.out (HL4.out.nn _ (by omega) (heap_lt H12V.out)) ⟨by rw[tag_of H12X.out];decide,by rw[tag_of H12X.out];decide⟩
            refine FwM.mono hf fun k hk => ?_
            have:=HL4.out.r k hk
            rcases this with q | ⟨q1,q2⟩
            · exact .inl q
            · exact .inr ⟨q1,by rw[HZW.out];exact q2⟩
          · have k:=HL4.out.k
            have b:=HBW.out
            exact⟨b.os.trans k.os,b.tape.trans k.tape,b.output.trans k.output,Nat.le_trans k.size b.size,fun j hj hn=>(b.block j hj).trans (k.block j hj hn),fun j hj ht=>(b.block j hj).trans (k.ent j hj ht)⟩
end Go.Proofs.YtaplpeoikebedaaGreatDoor.CkptW
namespace Go.Proofs.YtaplpeoikebedaaGreatDoor.CkptC
open Go.RowKit Go.Maps YtaplpeoikebedaaGreatDoorW.PrintWords YtaplpeoikebedaaGreatDoorW.PrintLast YtaplpeoikebedaaGreatDoorW.PrintMore
open See Mem Page PageR PageL Disk DiskW DiskS RecD Rec BlockB Wal WalF Pool2 SysD SysM Fresh Pager StoreD StoreF StoreI StoreJ TransT SpaceT FwdM FwdP BackL BackM BackU MasC MasT CkptM CkptK CkptR CkptP CkptW
attribute [local go_sem] max2_imax min2_imin max_two min_two
def ckRecs (F:FS):List RecV:=recsL F.most F.ts F.S.t
theorem ckRecs_len (F:FS):(ckRecs F).length=2+F.ts.length+F.S.t.length:=by unfold ckRecs recsL;simp;omega
theorem ck_recs {N m:Nat}{ch:Int→List Int}{kp:Int→Int}{F:FS}(h:FOk N m ch kp F)(hst : ∀x∈F.ts,0≤x.state∧x.state≤2) : ∀r∈ckRecs F,recOk r=true∧is64 r.old∧is64 r.new:=by
  have hl:=h.g.lok
  have hb:=hl.base
  have hl2:=hl.last
  have hmo:=h.t.most
  have hp32:=h.g.p32
  have hlast:F.S.l.last=F.S.l.base+(F.S.l.l.length:Int):=rfl
  intro r hr
  unfold ckRecs recsL at hr
  rcases List.mem_append.1 hr with hr | hr
  · rcases List.mem_append.1 hr with hr | hr
    · rcases List.mem_cons.1 hr with rfl | hr
      · exact⟨by decide,by unfold ckB is64;simp,by unfold ckB is64;simp⟩
      · obtain⟨x,hx,rfl⟩:=List.mem_map.1 hr
        obtain⟨i1,i2⟩:=h.t.ids x hx
        obtain⟨c1,c2,c3⟩:=h.c.last x hx
        have hnx:=h.c.next x hx
        obtain⟨s1,s2⟩:=hst x hx
        have hn:0≤x.next∧x.next≤1073741824:=by
          rw[hnx]
          cases hq:ch x.id with
          | nil=>exact⟨Int.le_refl 0,by decide⟩
          | cons k ks=>
            rw[hq] at c1
            have h1:=Chain.le c1 k List.mem_cons_self
            obtain⟨_,q,hq2,_⟩:=c1.at_ k List.mem_cons_self
            have h2 : ¬(k≤F.S.l.base∨F.S.l.last<k):=fun hc=>by
              unfold recOf at hq2
              rw[if_pos hc] at hq2
              cases hq2
            show 0≤k∧k≤1073741824
            omega
        refine⟨?_,by unfold ckT is64;simp,by unfold ckT is64;simp⟩
        unfold ckT recOk inB txnMax pageMax prevOk nextOk rkeyOk valsOk inB
        simp
        omega
    · obtain⟨d,hd,rfl⟩:=List.mem_map.1 hr
      obtain⟨⟨f,f1,f2⟩,d1,d2⟩:=h.g.pg.tab d hd
      obtain⟨g1,g2,_⟩:=h.g.pg.here f f1
      refine⟨?_,by unfold ckP is64;simp,by unfold ckP is64;simp⟩
      unfold ckP recOk inB txnMax pageMax prevOk nextOk rkeyOk valsOk inB
      simp
      omega
  · rw[List.mem_singleton] at hr
    subst hr
    refine⟨?_,by unfold ckE is64;simp,by unfold ckE is64;simp⟩
    unfold ckE recOk inB txnMax pageMax prevOk nextOk rkeyOk valsOk inB
    simp
    omega
def ckM (F:FS)(m:Mst):Mst:={ m with ckpt:=F.S.l.last+1 }
def ckF (F:FS)(m:Mst):FS:={ F with S:=wrS F.S (ckRecs F) (ckM F m),free:=F.free - ((2+F.ts.length+F.S.t.length:Nat):Int) }
theorem CkM.turn {M:Nat→Prop}{cp bp bm sp lp pp dp qp mp:Nat}{blocks frames:Int}{B:BSt}{m m':Mst}{w W:World}(h:CkM M w cp bp bm sp lp pp dp qp mp blocks frames B m)(hc:W.heap[cp]? = some (.cells (ckCells bp dp m') 86 (0,0)))(ho : ∀j,j≠cp→W.heap[j]? = w.heap[j]?):CkM M W cp bp bm sp lp pp dp qp mp blocks frames B m':=by
  obtain⟨R,h⟩:=h
  obtain⟨Rb,sl,hb⟩:=h.b
  refine⟨R,hc,⟨Rb,sl,hb.but ho (fun hr=>(h.r cp (hb.r cp hr).1).2 rfl) ?_ (fun e=>(h.r bp hb.low.1).2 e.symm) (fun e=>(h.r bm hb.low.2).2 e.symm) ?_⟩,h.r,h.low⟩
  · rw[tag_of h.box];decide
  · rw[tag_of h.box];decide
theorem kp_turn {M:Nat→Prop}{w w1 W:World}{cp:Nat}{c:Array Value}(h:Kp M w w1)(hM:M cp)(hc:w.heap[cp]? = some (.cells c 86 (0,0)))(hb:W.os=w1.os∧W.tape=w1.tape∧W.output=w1.output∧W.heap.size=w1.heap.size)(ho : ∀j,j≠cp→W.heap[j]? = w1.heap[j]?):Kp M w W:=by
  obtain⟨b1,b2,b3,b4⟩:=hb
  refine⟨b1.trans h.os,b2.trans h.tape,b3.trans h.output,by rw[b4];exact h.size,fun k hk hn => ?_,fun k hk ht => ?_⟩
  · exact (ho k fun e=>hn (by rw[e];exact hM)).trans (h.block k hk hn)
  · refine (ho k fun e => ?_).trans (h.ent k hk ht)
    subst e
    rw[tag_of hc] at ht
    revert ht
    decide
end Go.Proofs.YtaplpeoikebedaaGreatDoor.CkptC
namespace Go.Proofs.YtaplpeoikebedaaGreatDoor.ResetD
open Go.RowKit See Mem Page PageB PageR PageL Disk DiskW RecD Dirty Dirty2 Wal WalF PoolG PoolS PoolA SysD SysM Fresh FlushG Pager StoreD PageM StoreF StoreI StoreJ MasC MasT CkptD CkptK
end Go.Proofs.YtaplpeoikebedaaGreatDoor.ResetD
namespace Go.Proofs.YtaplpeoikebedaaGreatDoor.RoundD
open Go.RowKit See Mem Page PageB PageR PageL Disk DiskW RecD Dirty Dirty2 Wal WalF PoolG PoolS PoolA SysD SysM Fresh FlushG TabL Pager StoreD PageM StoreF StoreG StoreH StoreI StoreJ StoreK StoreV StoreW LockT LockU BackL TwiceD ValD MasC CkptD ResetD
theorem no_ts {N m:Nat}{ch:Int→List Int}{kp:Int→Int}{F:FS}(h:FOk N m ch kp F)(hs:F.sess=1)(h0:F.of 0=0):F.ts=[]:=by
  rw[List.eq_nil_iff_forall_not_mem]
  intro x hx
  obtain⟨s,e⟩:=h.t.on x hx
  have h1:=(h.t.ids x hx).1
  obtain⟨a,b,_⟩:=h.t.ofs s (by rw[e];omega)
  have:s=0:=by omega
  rw[this,h0] at e
  omega
theorem put_log {N m:Nat}{ch:Int→List Int}{kp:Int→Int}{F F':FS}{n key v hint:Int}{q:Int×Bool}(h:FOk N m ch kp F)(hR:putR F n key v hint=(F',q.1,q.2,none)):F'.S.l.blocks=F.S.l.blocks∧F'.S.l.base=F.S.l.base∧F'.S.l.l.length=F.S.l.l.length+1:=by
  obtain⟨p1,p2⟩:=placeOf_in key h.g.pg.pages
  unfold putR at hR
  split at hR
  · simp only[Prod.mk.injEq] at hR
    exact absurd hR.2.2.2 (by simp)
  · split at hR
    · simp only[Prod.mk.injEq] at hR
      exact absurd hR.2.2.2 (by simp)
    · simp only[Prod.mk.injEq] at hR
      obtain⟨rfl,_⟩:=hR
      obtain⟨S',g1,g2,g3,g4⟩:=get_ok h hint p1 p2
      have hS:(takesF F n key 2 hint).S=S':=by unfold takesF;rw[g1]
      obtain⟨l1,l2,l3,l4,l5⟩:=g3.ll
      have e : ∀r,(chgS (takesF F n key 2 hint).S r).l=(addRec S' r).l:=fun r=>by rw[(chg_l (takesF F n key 2 hint).S r).1,hS]
      refine⟨?_,?_,?_⟩
      · show (chgS _ _).l.blocks=_
        rw[e];exact l3
      · show (chgS _ _).l.base=_
        rw[e];exact l2
      · show (chgS _ _).l.l.length=_
        rw[e]
        show (S'.l.l++[_]).length=_
        rw[List.length_append,l1]
        rfl
end Go.Proofs.YtaplpeoikebedaaGreatDoor.RoundD
