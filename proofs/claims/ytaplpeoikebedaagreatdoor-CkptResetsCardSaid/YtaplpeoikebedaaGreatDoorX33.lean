/- Joined texts: FwdS, ChangeU, BackD, BackL. No condition but what each says. -/
import Derived.Test.YtaplpeoikebedaaGreatDoorX30
import Derived.Test.YtaplpeoikebedaaGreatDoorX31
import Derived.Test.YtaplpeoikebedaaGreatDoorX32
import Derived.Test.YtaplpeoikebedaaGreatDoorX19
import Derived.Deep.RegionHeld3
import Derived.Test.YtaplpeoikebedaaGreatDoorX28
import Derived.Test.YtaplpeoikebedaaGreatDoorX24
set_option maxHeartbeats 8000000
set_option maxRecDepth 100000
set_option linter.unusedVariables false
set_option linter.unusedSimpArgs false
namespace Go.Proofs.YtaplpeoikebedaaGreatDoor.FwdS
open Go.RowKit Go.Maps YtaplpeoikebedaaGreatDoorW.PrintWords YtaplpeoikebedaaGreatDoorW.PrintLast YtaplpeoikebedaaGreatDoorW.PrintMore
open See Mem Page Disk DiskN DiskW RecD Rec Dirty Wal WalF SysD SysM PoolG PoolS Pager StoreD PageM StoreF FlushG StoreG StoreI StoreJ ChangeT TransT LockT LockU SpaceT WaitT FwdM FwdP FwdC FwdT FwdB
attribute [local go_sem] max2_imax min2_imin max_two min_two
def rec0 (key:Int)(had:Bool)(old:Int)(has:Bool)(new:Int):RecV:=⟨0,0,0,0,0,key,had,has,old,new⟩
theorem set_low (a:Nat→Addr)(M:Nat→Prop)(sp lp pp dp qp mp:Nat)(blocks frames:Int)(F:FS)(x:Tx)(l0:Int)(v:Value)(r:RecV)(w:World)(h:FwM M w sp lp pp dp qp mp blocks frames F)(hs:SentsAll w a)(hfr:F.free<2)(hv : ∃A n c,v = .slice A n c) :
    Calls Tryz.prog 72 #[.pointer (some ⟨sp,0,none⟩),txV x,.agg #[.int .i64 l0,v],recV r] w fun e w'=>e = .returned (errv a (some 8))∧FwPost M sp lp pp dp qp mp blocks frames F w w':=by
  have HF:=Aside0.mk (fun (W:World) (hb:Below w.heap.size w W)=>h.below hb)
  have HR:=Aside0.mk (FwPost.refl h)
  have HSE:=Aside0.mk (fun (W:World) (hb:Below w.heap.size w W)=>(hs.below hb).cell 8 (by decide))
  have hspl:sp<w.heap.size:=by obtain⟨kv,tv,b1,_⟩:=h.box;exact heap_lt b1
  obtain⟨_,_,_,_,_,_,k10,_⟩:=h.cells
  have hgl:2<w.heap.size:=World.block_lt_of_cell? _ _ (hs.cell 8 (by decide))
  have hg8:w.cell? ⟨2,0,none⟩=some (.iface 333 (.pointer (some (a 8)))):=hs.cell 8 (by decide)
  have hd:decide (F.free<2)=true:=decide_eq_true hfr
  obtain⟨A,n,c,rfl⟩:=hv
  obtain⟨xi,xs,xl,xn⟩:=x
  obtain⟨r0,r1,r2,r3,r4,r5,r6,r7,r8,r9⟩:=r
  simp only[txV,recV,errv]
  clear h hs hfr
  go_enter Tryz.func72,Tryz.ntmps72
  go_upto_region 1 with fail
  obtain⟨W,hW⟩ : ∃W,((w.alloc (.cells #[.int .i64 xi,.int .i64 xs,.int .i64 xl,.int .i64 xn] 102)).alloc (.cells #[.int .i64 l0,.slice A n c] 74)).alloc (.cells #[.int .i64 r0,.int .i64 r1,.int .i64 r2,.int .i64 r3,.int .i64 r4,.int .i64 r5,.bool r6,.bool r7,.int .i64 r8,.int .i64 r9] 46)=W:=⟨_,rfl⟩
  have HBW:=Aside0.mk (show Below w.heap.size w W from by rw[←hW];repeat (first | exact Below.refl _ _ | apply below_drew1 | apply below_alloc))
  rw[hW]
  have j10:=pw_cell_below HBW.out k10
  have j8:=pw_cell_below HBW.out hg8
  clear hW k10 hg8
  go_wp2_with fail
  refine (free_space qp F.free F.kept _ (HF.out _ HBW.out).room).mono ?_
  rintro e w' ⟨rfl,rfl⟩
  go_wp2_with fail
  go_ret
  exact⟨rfl,FwPost.step HR.out HBW.out⟩
def recPut (w:World)(b:Nat)(k t p v:Int):World:=(((w.setCell ⟨b,0,none⟩ (.int .i64 k)).setCell ⟨b,1,none⟩ (.int .i64 t)).setCell ⟨b,2,none⟩ (.int .i64 p)).setCell ⟨b,3,none⟩ (.int .i64 v)
theorem recPut_heap {w:World}{b:Nat}{r:RecV}(h:w.heap[b]? = some (.cells (recA r) 46 (0,0)))(k t p v:Int):(recPut w b k t p v).heap[b]? = some (.cells (recA { r with kind:=k,txn:=t,page:=p,prev:=v }) 46 (0,0)):=by
  have h0:=heap_setCell_same w b 0 _ _ (.int .i64 k) h
  have h1:=heap_setCell_same _ b 1 _ _ (.int .i64 t) h0
  have h2:=heap_setCell_same _ b 2 _ _ (.int .i64 p) h1
  have h3:=heap_setCell_same _ b 3 _ _ (.int .i64 v) h2
  exact h3
theorem recPut_other {w:World}{b k:Nat}(h:k≠b)(x t p v:Int):(recPut w b x t p v).heap[k]? = w.heap[k]? := by
  unfold recPut
  rw[Below.heap_setCell _ _ _ _ h,Below.heap_setCell _ _ _ _ h,Below.heap_setCell _ _ _ _ h,Below.heap_setCell _ _ _ _ h]
theorem recPut_below {B:Nat}{w w1:World}{b:Nat}(h:Below B w w1)(hb:B≤b)(k t p v:Int):Below B w (recPut w1 b k t p v):=(((h.setCell hb _).setCell hb _).setCell hb _).setCell hb _
structure S0 (w:World) (x:Tx) (l0:Int) (v:Value) (r:RecV) (w3:World):Prop where
  b:Below w.heap.size w w3
  x:w3.heap[w.heap.size]? = some (.cells #[.int .i64 x.id,.int .i64 x.state,.int .i64 x.last,.int .i64 x.next] 102 (0,0))
  g:w3.heap[w.heap.size+1]? = some (.cells #[.int .i64 l0,v] 74 (0,0))
  r:w3.heap[w.heap.size+1+1]? = some (.cells (recA r) 46 (0,0))
theorem S0.below {w:World}{x:Tx}{l0:Int}{v:Value}{r:RecV}{w3 w4:World}(h:S0 w x l0 v r w3)(hb:Below w3.heap.size w3 w4):S0 w x l0 v r w4:=
  ⟨below_step h.b hb,(hb.block _ (heap_lt h.x)).trans h.x,(hb.block _ (heap_lt h.g)).trans h.g,(hb.block _ (heap_lt h.r)).trans h.r⟩
theorem sO {b k:Nat}(h:k≠b)(V:World)(i j:Nat)(v:Value):(V.setCell ⟨b,i,none⟩ v).cell? ⟨k,j,none⟩=V.cell? ⟨k,j,none⟩:=World.cell?_setCell_other _ _ _ _ (by intro e;injection e with e;exact h e.symm)
theorem sI {i j:Nat}(h:i≠j)(V:World)(b:Nat)(v:Value):(V.setCell ⟨b,i,none⟩ v).cell? ⟨b,j,none⟩=V.cell? ⟨b,j,none⟩:=World.cell?_setCell_other _ _ _ _ (by intro e;injection e with _ e;exact h e)
theorem sD (V:World)(x:Addr):V.drew.cell? x=V.cell? x:=rfl
theorem set_done (a:Nat→Addr)(M:Nat→Prop)(sp lp pp dp qp mp:Nat)(blocks frames:Int)(F:FS)(id l0:Int)(v:Value)(es:List (Int×Int))(key:Int)(hd:Bool)(ol:Int)(hb:Bool)(nw:Int)(w:World)(h:FwM M w sp lp pp dp qp mp blocks frames F)(hs:SentsAll w a)(hO:OutAll M a)(hid:thas F.ts id=true)(hr:Rising (kvT F.ts))(hp:P2 w 169 v es)(hes:Rising es)(hk0:0≤key)(hk1:key<1048576)(hP1:1≤F.P)(hP2:F.P≤1000)(hfr:2≤F.free)(htop:F.free≤1073741824∧0≤F.kept∧F.kept≤1073741824)
    (hrec:recOk (recSet (tget F.ts id) F.P key hd ol hb nw)=true) (hroom:1≤F.S.l.room) (hl0:l0<F.S.l.last+1) (hput:hb=true→has es key=true∨es.length<20) (ht:F.S.t.length≤70000) (htid:(tget F.ts id).id=id)
    (hset:setS (addRec F.S (recSet (tget F.ts id) F.P key hd ol hb nw)) (placeOf key F.P) (F.S.l.last+1) (redoE es (recSet (tget F.ts id) F.P key hd ol hb nw))=((setF F id key hd ol hb nw).S,none)) :
    Calls Tryz.prog 72 #[.pointer (some ⟨sp,0,none⟩),txV (tget F.ts id),.agg #[.int .i64 l0,v],recV (rec0 key hd ol hb nw)] w fun e w'=>e = .returned .nilIface∧FwPost M sp lp pp dp qp mp blocks frames (setF F id key hd ol hb nw) w w':=by
  have HF:=Aside0.mk h
  have HS:=Aside0.mk hs
  have HO:=Aside0.mk hO
  have HID:=Aside0.mk (And.intro hid hr)
  have HPP:=Aside0.mk hp
  have HES:=Aside0.mk hes
  have HTOP:=Aside0.mk htop
  have HREC:=Aside0.mk (append_room hrec hroom)
  have HL0:=Aside0.mk hl0
  have HPUT:=Aside0.mk hput
  have HT:=Aside0.mk ht
  have HSET:=Aside0.mk hset
  have HFRE:=Aside0.mk hfr
  have hspl:sp<w.heap.size:=by obtain⟨kv,tv,b1,_⟩:=h.box;exact heap_lt b1
  have hd2:decide (F.free<2)=false:=decide_eq_false (by omega)
  obtain⟨A,c,rfl,_⟩:=ow_slice hp.1
  obtain⟨n,hn⟩ : ∃n,es.length=n:=⟨_,rfl⟩
  have HN:=Aside0.mk hn
  obtain⟨pk,hpk⟩ : ∃pk,placeOf key F.P=pk:=⟨_,rfl⟩
  have HPK:=Aside0.mk hpk
  obtain⟨x,hxx⟩ : ∃x,tget F.ts id=x:=⟨_,rfl⟩
  have HXX:=Aside0.mk hxx
  rw[hxx] at HREC HSET ⊢
  rw[hpk] at HSET
  have hri:x.id=id:=by rw[←hxx];exact htid
  obtain⟨r',hr'⟩ : ∃r',recSet x F.P key hd ol hb nw=r':=⟨_,rfl⟩
  rw[hr'] at HREC HSET
  have HRR:=Aside0.mk (show r'=⟨2,id,pk,x.last,0,key,hd,hb,ol,nw⟩ from by rw[←hr',←hri];unfold recSet;rw[hpk])
  obtain⟨P,hP⟩ : ∃P,F.P=P:=⟨_,rfl⟩
  rw[hP] at hP1 hP2
  have HPL:=Aside0.mk (show placeOf key P=pk by rw[←hP];exact hpk)
  have HC0:=Aside0.mk (show w.cell? ⟨sp,0,none⟩=some (.int .i64 P) by rw[←hP];exact h.cells.1)
  have k10:=h.cells.2.2.2.2.2.2.1
  rw[hn]
  obtain⟨xi,xs,xl,xn⟩:=x
  simp only at hri HRR
  subst hri
  simp only[txV,recV,rec0]
  clear h hs hO hid hr hp hes htop hrec hroom hl0 hput ht hset hfr hpk hxx hr' hP hn htid
  go_enter Tryz.func72,Tryz.ntmps72
  go_upto_region 1 with fail
  obtain⟨W,hW⟩ : ∃W,((w.alloc (.cells #[.int .i64 xi,.int .i64 xs,.int .i64 xl,.int .i64 xn] 102)).alloc (.cells #[.int .i64 l0,.slice A n c] 74)).alloc (.cells #[.int .i64 0,.int .i64 0,.int .i64 0,.int .i64 0,.int .i64 0,.int .i64 key,.bool hd,.bool hb,.int .i64 ol,.int .i64 nw] 46)=W:=⟨_,rfl⟩
  have HBW:=Aside0.mk (show Below w.heap.size w W from by rw[←hW];repeat (first | exact Below.refl _ _ | apply below_drew1 | apply below_alloc))
  have HSZ:=Aside0.mk (show W.heap.size=w.heap.size+1+1+1 from by rw[←hW];show (((w.heap.push _).push _).push _).size=_;simp only[Array.size_push])
  have HS0:=Aside0.mk (show S0 w ⟨xi,xs,xl,xn⟩ l0 (.slice A n c) (rec0 key hd ol hb nw) W from by
    refine⟨HBW.out,?_,?_,?_⟩
    · rw[←hW]
      exact (Below.heap_alloc _ _ _ (by show _<((w.heap.push _).push _).size;simp only[Array.size_push];omega)).trans ((Below.heap_alloc _ _ _ (by show _<(w.heap.push _).size;simp only[Array.size_push];omega)).trans (heap_alloc_new w _))
    · rw[←hW]
      exact (Below.heap_alloc _ _ _ (by show _<((w.heap.push _).push _).size;simp only[Array.size_push];omega)).trans (alloc_at _ _ (show (w.alloc _).heap.size=w.heap.size+1 from by show (w.heap.push _).size=_;rw[Array.size_push]))
    · rw[←hW]
      exact alloc_at _ _ (show ((w.alloc _).alloc _).heap.size=w.heap.size+1+1 from by show ((w.heap.push _).push _).size=_;simp only[Array.size_push]))
  rw[hW]
  have j10:=pw_cell_below HBW.out k10
  clear hW k10
  go_wp2_with fail
  refine (free_space qp F.free F.kept _ (HF.out.below HBW.out).room).mono ?_
  rintro e w' ⟨rfl,rfl⟩
  have j0:=pw_cell_below HBW.out HC0.out
  obtain⟨x0,x1,x2,x3,_,_,_,_⟩:=tx_cells HS0.out.x
  obtain⟨y0,y1,y2,y3,y4,y5,y6,y7,y8,y9⟩:=rec_cells HS0.out.r
  obtain⟨br,hbr⟩ : ∃br,w.heap.size+1+1=br:=⟨_,rfl⟩
  have HBR:=Aside0.mk hbr
  rw[hbr] at y0 y1 y2 y3 y4 y5 y6 y7 y8 y9 ⊢
  have HS0R:W.heap[br]? = some (.cells (recA (rec0 key hd ol hb nw)) 46 (0,0)):=by rw[←hbr];exact HS0.out.r
  have f0:W.frozen? ⟨br,0,none⟩=false:=by simp[World.frozen?,HS0R]
  have f1:W.frozen? ⟨br,1,none⟩=false:=by simp[World.frozen?,HS0R]
  have f2:W.frozen? ⟨br,2,none⟩=false:=by simp[World.frozen?,HS0R]
  have f3:W.frozen? ⟨br,3,none⟩=false:=by simp[World.frozen?,HS0R]
  have hspW:sp<W.heap.size:=by have:=HSZ.out;omega
  have hne:sp≠br:=by omega
  simp only[rec0] at y0 y1 y2 y3 y4 y5 y6 y7 y8 y9
  have hnx:w.heap.size≠br:=by omega
  have HS0R':=Aside0.mk HS0R
  clear HS0R hbr
  clear y4 y6 y7 y8 y9 x1 x3
  go_upto_region 3 with fail
  clear hd2 j10
  go_cut [] (fun wx=>Aside0 (S0 w ⟨xi,xs,xl,xn⟩ l0 (.slice A n c) r' wx)∧Aside0 (wx.heap.size=w.heap.size+1+1+1))
  case first=>
    go_region_held3 (fun w'=>w'.cell? ⟨sp,0,none⟩=some (.int .i64 P)∧w'.cell? ⟨w.heap.size,0,none⟩=some (.int .i64 xi)∧w'.cell? ⟨w.heap.size,2,none⟩=some (.int .i64 xl)∧w'.cell? ⟨br,5,none⟩=some (.int .i64 key))
      (first | (simp only[sD,sO hne,sO hnx,sI (show (0:Nat)≠5 by decide),sI (show (1:Nat)≠5 by decide),sI (show (2:Nat)≠5 by decide),sI (show (3:Nat)≠5 by decide)];exact⟨j0,x0,x2,y5⟩) | exact⟨j0,x0,x2,y5⟩)
      (first
        | (go_at_call 125;refine (place_at key P pk hk0 hk1 hP1 hP2 HPL.out _).mono ?_;rintro e wq ⟨rfl,rfl⟩))
    rw[show (((W.setCell ⟨br,0,none⟩ (.int .i64 2)).setCell ⟨br,1,none⟩ (.int .i64 xi)).setCell ⟨br,2,none⟩ (.int .i64 pk)).setCell ⟨br,3,none⟩ (.int .i64 xl)=recPut W br 2 xi pk xl from rfl]
    have HS3:=Aside0.mk (show S0 w ⟨xi,xs,xl,xn⟩ l0 (.slice A n c) r' (recPut W br 2 xi pk xl) from by
      have hbr:=HBR.out
      refine⟨recPut_below HBW.out (by omega) _ _ _ _,(recPut_other (by omega) _ _ _ _).trans HS0.out.x,(recPut_other (by omega) _ _ _ _).trans HS0.out.g,?_⟩
      rw[hbr,HRR.out]
      exact recPut_heap HS0R'.out _ _ _ _)
    have HZ3:=Aside0.mk (show (recPut W br 2 xi pk xl).heap.size=w.heap.size+1+1+1 from by unfold recPut;simp[World.setCell];exact HSZ.out)
    clear f0 f1 f2 f3 y0 y1 y2 y3 y5 x0 x2 j0
    generalize recPut W br 2 xi pk xl=wd at HS3 HZ3 ⊢
    go_wp2_with fail
    go_meet
    exact⟨⟨HS3.out.below (by repeat (first | exact Below.refl _ _ | apply below_drew1))⟩,HZ3⟩
  case rest=>
    obtain⟨HS3,HZ3⟩:=hcut
    clear f0 f1 f2 f3 y0 y1 y2 y3 y5 x0 x2 j0 hspW hne hnx
    generalize wc=V0 at HS3 HZ3 ⊢
    have HLB0:=Aside0.mk (LB.start HF.out HS3.out.b)
    have hw3:w.heap.size+3=V0.heap.size:=by rw[HZ3.out]
    have HXB:=Aside0.mk HS3.out.x
    have HGB:=Aside0.mk HS3.out.g
    have HRB:=Aside0.mk (show V0.heap[br]? = some (.cells (recA r') 46 (0,0)) by rw[←HBR.out];exact HS3.out.r)
    have hbrw:w.heap.size≤br:=by have:=HBR.out;omega
    have HAP:=Aside0.mk (show ∀(V:World),Below V0.heap.size V0 V→Calls Tryz.prog 63 #[.pointer (some ⟨lp,0,none⟩),recV r'] V (fun e w'=>e = .returned (.tuple #[.int .i64 (F.S.l.last+1),.nilIface])∧∃R,LB M sp lp pp dp qp mp blocks frames { F with S:=addRec F.S r' } w V0 R w') from fun V hbl=>by
      have hl:=HLB0.out.below hbl
      obtain⟨hs1,hs2⟩:=hl.sents HS.out HO.out
      obtain⟨lv,hlg⟩:=hl.f.sys.log
      have:=append_log a _ lp dp lv F.S.l r' V (hs1.k _ (by decide)) hlg
      exact this.mono fun e w' hh=>by
        obtain⟨rfl,v3,hl3,hf3⟩:=hh
        rw[HREC.out.2.2] at hl3
        rw[HREC.out.1,HREC.out.2.1,show errv a none = .nilIface from rfl]
        exact⟨rfl,_,hl.step (FwM.lg hl.f ⟨v3,hl3⟩ hf3)⟩)
    have j4:=HLB0.out.f.cells.2.2.1
    obtain⟨y0,y1,y2,y3,y4,y5,y6,y7,y8,y9⟩:=rec_cells HRB.out
    rw[HRR.out] at y0 y1 y2 y3 y4 y5 y6 y7 y8 y9 HAP
    simp only[recV] at y0 y1 y2 y3 y4 y5 y6 y7 y8 y9 HAP
    go_upto_region 4 with fail
    go_cut [9,10] (fun v9 v10 wx=>v9 = .int .i64 (F.S.l.last+1)∧v10 = .nilIface∧∃R,Aside0 (LB M sp lp pp dp qp mp blocks frames { F with S:=addRec F.S r' } w V0 R wx))
    case first=>
      go_region_law (first
        | (go_simp;go_at_call 63;refine (HAP.out _ (by repeat (first | exact Below.refl _ _ | apply below_drew1))).mono ?_;rintro e w4 ⟨rfl,R4,hl4⟩;have HL4:=Aside0.mk hl4;clear hl4))
      all_goals
        go_wp2_with fail
        go_meet
        exact⟨rfl,rfl,R4,by rw[HRR.out];exact HL4⟩
    case rest=>
      obtain⟨rfl,rfl,R4,HL4⟩:=hcut
      generalize wc=V1 at HL4 ⊢
      clear j4 y0 y1 y2 y3 y4 y5 y6 y7 y8 y9
      have j10:=HL4.out.f.cells.2.2.2.2.2.2.1
      have hlsp:sp<V1.heap.size:=by have:=HL4.out.k.size;omega
      go_wp2_with fail
      refine (ask_space _ qp F.free F.kept 1 1 _ HL4.out.f.room HL4.out.f.low.2.1 (by omega) (by omega) (by have:=HFRE.out;omega) HTOP.out.1 HTOP.out.2.1 HTOP.out.2.2).mono ?_
      rintro e V2 ⟨rfl,hs5,hf5⟩
      have HL5:=Aside0.mk (HL4.out.step (FwM.spc HL4.out.f hs5 hf5))
      clear hs5 hf5 j10 hlsp
      have HXB5:=Aside0.mk (HL5.out.at HXB.out (Nat.le_refl _))
      obtain⟨cs,tv,htx,hput2⟩:=FwM.txs HL5.out.f HID.out.2
      have HTX:=Aside0.mk htx
      have HPT:=Aside0.mk hput2
      clear htx hput2
      obtain⟨x0,x1,x2,x3,_,_,_,_⟩:=tx_cells HXB5.out
      have hl5:=heap_lt HXB5.out
      have HNT:=Aside0.mk (show ∀(V:World),Below V2.heap.size V2 V→Calls Tryz.prog 66 #[.pointer (some ⟨sp,8,none⟩),.int .i64 xi,.int .i64 (F.S.l.last+1),.int .i64 (F.S.l.last+1)] V (fun e w'=>e = .returned (.bool true)∧∃R,LB M sp lp pp dp qp mp blocks frames { F with S:=addRec F.S r',free:=F.free - (1+1),kept:=F.kept+1,ts:=tnote F.ts xi (F.S.l.last+1) (F.S.l.last+1) } w V0 R w') from fun V hbl=>by
        have:=tnote_calls _ sp 8 118 cs tv F.ts F.most xi (F.S.l.last+1) (F.S.l.last+1) V (HTX.out.below hbl) HID.out.1
        exact this.mono fun e w' hh=>by
          obtain⟨rfl,hpost⟩:=hh
          exact⟨rfl,_,HL5.out.step (HPT.out _ _ _ (Int.le_refl _) (hpost.back hbl))⟩)
      go_upto_region 8 with fail
      go_cut [] (fun wx => ∃R,Aside0 (LB M sp lp pp dp qp mp blocks frames { F with S:=addRec F.S r',free:=F.free - (1+1),kept:=F.kept+1,ts:=tnote F.ts xi (F.S.l.last+1) (F.S.l.last+1) } w V0 R wx))
      case first=>
        go_region_law (first
          | (go_simp;go_at_call 66;refine (HNT.out _ (by repeat (first | exact Below.refl _ _ | apply below_drew1))).mono ?_;rintro e w6 ⟨rfl,R6,hl6⟩;have HL6:=Aside0.mk hl6;clear hl6))
        all_goals
          go_wp2_with fail
          go_meet
          exact⟨R6,HL6⟩
      case rest=>
        obtain⟨R6,HL6⟩:=hcut
        generalize wc=V3 at HL6 ⊢
        clear x0 x1 x2 x3 hl5
        have HG6:=Aside0.mk (HL6.out.at HGB.out (by omega))
        have HR6:=Aside0.mk (HL6.out.at HRB.out hbrw)
        have HP6:=Aside0.mk (p2_kp HPP.out HL6.out.k)
        obtain⟨_,_,g0,g1⟩:=pg_cells HG6.out
        obtain⟨y0,y1,y2,y3,y4,y5,y6,y7,y8,y9⟩:=rec_cells HR6.out
        rw[HRR.out] at y0 y1 y2 y3 y4 y5 y6 y7 y8 y9
        simp only at y0 y1 y2 y3 y4 y5 y6 y7 y8 y9
        have HRD:=Aside0.mk (by have h:=HP6.out;have:=redo_calls l0 (F.S.l.last+1) (.slice A n c) es r' V3 (by rw[HN.out] at h;exact h) HES.out (by rw[HRR.out];exact .inl rfl) HL0.out (by rw[HRR.out];exact HPUT.out);rw[HRR.out] at this;exact this)
        simp only[recV] at HRD
        have hg6:=heap_lt HG6.out
        have hr6:=heap_lt HR6.out
        go_wp2_with fail
        refine HRD.out.mono ?_
        rintro e V4 ⟨v2,rfl,hp4,hb4⟩
        rw[←HRR.out] at hp4
        obtain⟨A2,c2,rfl,_⟩:=ow_slice hp4.1
        obtain⟨n2,hn2⟩ : ∃n2,(redoE es r').length=n2:=⟨_,rfl⟩
        rw[hn2] at hp4 ⊢
        have HL7:=Aside0.mk (HL6.out.below (hb4.trans (below_alloc (Below.refl _ _) (.cells #[.int .i64 (F.S.l.last+1),.slice A2 n2 c2] 74) |>.mono hb4.size)))
        have HP7:=Aside0.mk (hp4.below (below_alloc (Below.refl _ _) (.cells #[.int .i64 (F.S.l.last+1),.slice A2 n2 c2] 74)))
        obtain⟨bo,hbo⟩ : ∃bo,V4.heap.size=bo:=⟨_,rfl⟩
        have HBO:=Aside0.mk hbo
        obtain⟨V5,hV5⟩ : ∃V5,V4.alloc (.cells #[.int .i64 (F.S.l.last+1),.slice A2 n2 c2] 74)=V5:=⟨_,rfl⟩
        have HV5:=Aside0.mk hV5
        have HO7:=Aside0.mk (show V5.heap[bo]? = some (.cells #[.int .i64 (F.S.l.last+1),.slice A2 n2 c2] 74 (0,0)) by rw[←hV5,←hbo];exact heap_alloc_new _ _)
        rw[hV5] at HL7 HP7
        have HR7:=Aside0.mk (HL7.out.at HRB.out hbrw)
        clear hp4 hb4 hbo hV5 hn2 g0 g1 y0 y1 y2 y3 y4 y5 y6 y7 y8 y9 hg6 hr6
        have HST:=Aside0.mk (show ∀(V:World),Below V5.heap.size V5 V→Calls Tryz.prog 129 #[.pointer (some ⟨pp,0,none⟩),.int .i64 pk,.agg #[.int .i64 (F.S.l.last+1),.slice A2 n2 c2]] V (fun e w'=>e = .returned .nilIface∧∃R,LB M sp lp pp dp qp mp blocks frames (setF F xi key hd ol hb nw) w V0 R w') from fun V hbl=>by
          have hl:=HL7.out.below hbl
          obtain⟨hs1,hs2⟩:=hl.sents HS.out HO.out
          have:=set_pool a _ pp lp dp (addRec F.S r') pk (F.S.l.last+1) (.slice A2 n2 c2) (redoE es r') V (hs1.k _ (by decide)) hl.f.sys (HP7.out.below hbl) HT.out
          exact this.mono fun e w' hh=>by
            obtain⟨rfl,hx,hf⟩:=hh
            rw[HSET.out] at hx ⊢
            exact⟨rfl,_,hl.step (FwM.sy hl.f hx hf)⟩)
        go_upto_region 10 with fail
        rw[HBO.out,show V4.alloc (.cells #[.int .i64 (F.S.l.last+1),.slice A2 n2 c2] 74)=V5 from HV5.out]
        have j5:=HL7.out.f.cells.2.2.2.1
        obtain⟨_,_,g0,g1⟩:=pg_cells HO7.out
        have y2:=(rec_cells HR7.out).2.2.1
        rw[HRR.out] at y2
        simp only at y2
        go_upto_region 12 with fail
        go_cut [8] (fun v8 wx=>v8 = .nilIface∧∃R,Aside0 (LB M sp lp pp dp qp mp blocks frames (setF F xi key hd ol hb nw) w V0 R wx))
        case first=>
          go_region_law (first
            | (go_simp;go_at_call 129;refine (HST.out _ (by repeat (first | exact Below.refl _ _ | apply below_drew1))).mono ?_;rintro e w8 ⟨rfl,R8,hl8⟩;have HL8:=Aside0.mk hl8;clear hl8))
          all_goals
            go_wp2_with fail
            go_meet
            exact⟨rfl,R8,HL8⟩
        case rest=>
          obtain⟨rfl,R8,HL8⟩:=hcut
          go_wp2_with fail
          go_ret
          exact⟨rfl,HL8.out.post⟩
end Go.Proofs.YtaplpeoikebedaaGreatDoor.FwdS
namespace Go.Proofs.YtaplpeoikebedaaGreatDoor.ChangeU
open Go.RowKit YtaplpeoikebedaaGreatDoorW.PrintWords YtaplpeoikebedaaGreatDoorW.PrintLast YtaplpeoikebedaaGreatDoorW.PrintMore
open See Mem Page RecD Rec Wal WalR StoreD
attribute [local go_sem] max2_imax min2_imin max_two min_two
end Go.Proofs.YtaplpeoikebedaaGreatDoor.ChangeU
namespace Go.Proofs.YtaplpeoikebedaaGreatDoor.BackD
open Go.RowKit Go.Maps YtaplpeoikebedaaGreatDoorW.PrintWords YtaplpeoikebedaaGreatDoorW.PrintLast YtaplpeoikebedaaGreatDoorW.PrintMore
open See Mem Page Disk DiskN DiskW RecD Rec Dirty Wal WalF WalR PoolG PoolS SysD SysM FlushG Pager StoreD PageM StoreF StoreG StoreH StoreI StoreJ TransT LockT LockU SpaceT WaitT ChainT ChangeT ChangeU FwdM FwdP FwdC FwdT FwdB FwdS
attribute [local go_sem] max2_imax min2_imin max_two min_two
def backF (F:FS)(id k nx:Int)(r:RecV)(hint:Int):FS:=undoF { F with S:=(getS F.S r.page hint).1 } id k nx r
structure BackIn (F:FS) (id k nx:Int) (r:RecV) (hint:Int) (S':PSys):Prop where
  get:getS F.S r.page hint=(S',cur F.S r.page,.fine)
  n0:Norm F.S.l (tget F.ts id).next k
  rec_:recOf F.S.l k=some r
  n1:Norm S'.l r.prev nx
  kind:r.kind=2
  rise:Rising (cur F.S r.page).2
  lsn:(cur F.S r.page).1<S'.l.last+1
  rok:recOk (recClr (tget F.ts id) r k nx)=true
  room:r.had=true→has (cur F.S r.page).2 r.key=true∨(cur F.S r.page).2.length<20
  r1:1≤S'.l.room
  kept:1≤F.kept∧F.kept≤1073741824
  few:S'.t.length≤70000
  has_:thas F.ts id=true
  ris2:Rising (kvT F.ts)
  id_:(tget F.ts id).id=id
  lse:LooseLe F.S.d 40000
  set_:setS (addRec S' (recClr (tget F.ts id) r k nx)) r.page (S'.l.last+1) (redoE (cur F.S r.page).2 (recClr (tget F.ts id) r k nx))=((backF F id k nx r hint).S,none)
  last:S'.l.last+1≤1073741824∧0≤S'.l.last
theorem back_in {N m:Nat}{ch:Int→List Int}{kp:Int→Int}{F:FS}{id k:Int}{ks:List Int}{r:RecV}(hint:Int)(h:FOk N m ch kp F)(hid:thas F.ts id=true)(hch:ch id=k :: ks)(hrk:recOf F.S.l k=some r)(hkp : ∀x,0≤kp x)(hm:m≤39000)(hfr:F.S.frames≤8) :
    ∃S',BackIn F id k (ks.headD 0) r hint S'∧FOk N (m+1) (updc ch id ks) kp (backF F id k (ks.headD 0) r hint)∧∀j,vals (backF F id k (ks.headD 0) r hint) j=if j=r.key then (if r.had then some r.old else none) else vals F j:=by
  obtain⟨hx,hxid⟩:=tget_mem hid
  obtain⟨la,lb,lc⟩:=h.c.last _ hx
  have hnx:=h.c.next _ hx
  rw[hxid,hch] at la hnx
  have hkn:=la.at_ k List.mem_cons_self
  have hrk2:r.kind=2:=by
    obtain⟨_,q,hq,hq2⟩:=hkn
    rw[hrk] at hq
    cases hq
    exact hq2
  obtain⟨st,sp,sh⟩:=h.c.sets _ hx k (by rw[hxid,hch];exact List.mem_cons_self) r hrk
  obtain⟨p1,p2⟩:=placeOf_in r.key h.g.pg.pages
  rw[←sp] at p1 p2
  obtain⟨S',e1,e2,e3,e4⟩:=get_ok h hint p1 p2
  have hcur:=e3.cur _ p1 p2
  obtain⟨l1,l2,l3,l4,l5⟩:=e3.ll
  obtain⟨r1,r2⟩:=room_done (L:=F.S.l) (L':=S'.l) ⟨l2,l3,l1⟩
  have hrec : ∀n,recOf S'.l n=recOf F.S.l n:=fun n=>recOf_done l2 l1 n
  have hu:=undo_ok (F:={ F with S:=S' }) (f:=⟨r.page,(cur F.S r.page).1,(cur F.S r.page).2⟩) e2 hid hch (by show recOf S'.l k=_;rw[hrec];exact hrk) e4 hkp
  have hc1:cur ({ F with S:=S' }:FS).S r.page=cur F.S r.page:=hcur
  rw[hc1] at hu
  obtain⟨u1,u2,u3,u4,u5,u6,u7⟩:=hu
  have hb:backF F id k (ks.headD 0) r hint=undoF { F with S:=S' } id k (ks.headD 0) r:=by unfold backF;rw[e1]
  have hrise:Rising (cur F.S r.page).2:=PageV.rise (h.g.pg.curV p1 p2)
  have hro:=h.g.room
  have hroomB:F.S.l.room≤1073741824:=by unfold Lg.room;have:=h.g.lok.base;unfold Lg.last;omega
  have hrest:Chain F.S.l r.prev ks:=by
    cases la with
    | cons h0 h1 h2 h3 h4=>
      rw[hrk] at h2
      cases h2
      exact h4
  have hl:=e2.g.lok
  refine⟨S',⟨e1,?_,hrk,(hrest.norm).keep fun m q hq=>by rw[hrec];exact hq,hrk2,hrise,?_,u2,fun hh => ?_,u4,⟨u5,by omega⟩,?_,hid,h.t.rise,hxid,h.g.loose.mono (by omega),by rw[hb];exact u1,?_⟩,by rw[hb];exact u6,fun j => ?_⟩
  · rw[hnx];exact la.norm.head
  · have:=h.g.lsn _ p1 p2
    rw[r2];omega
  · have h3:=u3
    unfold redoE at h3
    rw[show (recClr (tget ({ F with S:=S' }:FS).ts id) r k (ks.headD 0)).has=r.had from rfl,if_pos hh,len_put hrise,show (recClr (tget ({ F with S:=S' }:FS).ts id) r k (ks.headD 0)).key=r.key from rfl,←has_val hrise] at h3
    cases hq:has (cur F.S r.page).2 r.key with
    | true=>exact .inl rfl
    | false=>
      rw[hq] at h3
      simp at h3
      exact .inr (by omega)
  · have h1:=tab_few e2.g.pg
    have h2:S'.frames=F.S.frames:=e3.frames
    have h3:({ F with S:=S' }:FS).S.t.length=S'.t.length:=rfl
    have h4:({ F with S:=S' }:FS).S.frames=S'.frames:=rfl
    omega
  · have h0:1≤S'.l.room:=u4
    unfold Lg.room at h0
    have h2:=hl.base
    have h3:0≤S'.l.base:=h2.1
    refine⟨by omega,?_⟩
    unfold Lg.last
    omega
  · rw[hb,u7 j]
    split
    · rfl
    · exact vals_to h.g.pg.pages e3 j
end Go.Proofs.YtaplpeoikebedaaGreatDoor.BackD
namespace Go.Proofs.YtaplpeoikebedaaGreatDoor.BackL
open Go.RowKit See Mem RecD Dirty Wal WalF PoolG PoolS SysD SysM FlushG Pager StoreD PageM StoreF StoreG StoreH StoreI StoreJ BackD
def undoV (L:Lg)(k:Int)(f:Int→Option Int):Int→Option Int:=
  match recOf L k with
  | some r=>fun j=>if j=r.key then (if r.had then some r.old else none) else f j
  | none=>f
def rewV (L:Lg):List Int→(Int→Option Int)→Int→Option Int
  | [],f=>f
  | k :: ks,f=>rewV L ks (undoV L k f)
theorem rewV_append (L:Lg) : ∀(p q:List Int) (f:Int→Option Int),rewV L (p++q) f=rewV L q (rewV L p f)
  | [],_,_=>rfl
  | k :: p,q,f=>rewV_append L p q (undoV L k f)
theorem setS_l (S:PSys)(n lsn:Int)(es:List (Int×Int)):(setS S n lsn es).1.l=S.l∧(setS S n lsn es).1.frames=S.frames:=by
  unfold setS
  split
  · exact⟨rfl,rfl⟩
  · split<;>exact⟨rfl,rfl⟩
theorem chg_l (S:PSys)(r:RecV):(chgS S r).l=(addRec S r).l∧(chgS S r).frames=S.frames:=setS_l _ _ _ _
theorem set_rew {F:FS}{id key:Int}{had:Bool}{old:Int}{has:Bool}{new:Int}(ho:had=(vals F key).isSome)(h2:(if had then some old else none)=vals F key)(hv : ∀k,k≠key→vals (setF F id key had old has new) k=vals F k) :
    undoV (setF F id key had old has new).S.l (F.S.l.last+1) (vals (setF F id key had old has new))=vals F:=by
  have hl:(setF F id key had old has new).S.l=(addRec F.S (recSet (tget F.ts id) F.P key had old has new)).l:=(chg_l _ _).1
  unfold undoV
  rw[hl,addRec_new]
  funext j
  show (if j=key then (if had then some old else none) else vals _ j)=_
  by_cases e:j=key
  · rw[if_pos e,h2,e]
  · rw[if_neg e,hv j e]
theorem Norm.le {L:Lg}{n k:Int}(h:Norm L n k):k=0∨k≤n:=by
  induction h with
  | zero=>exact .inl rfl
  | set=>exact .inr (Int.le_refl _)
  | begin=>exact .inl rfl
  | clr _ _ _ h3 _ ih=>exact ih.elim .inl fun h=>.inr (by omega)
  | end_ _ _ _ h3 _ ih=>exact ih.elim .inl fun h=>.inr (by omega)
theorem Chain.le {L:Lg}{n:Int}{ks:List Int}(h:Chain L n ks) : ∀k∈ks,k≤n:=by
  induction h with
  | nil=>intro k hk;cases hk
  | cons h0 h1 h2 h3 _ ih=>
    have hn:=(Norm.le h0).resolve_left h1
    intro j hj
    rcases List.mem_cons.1 hj with rfl | hj
    · exact hn
    · have:=ih j hj;omega
structure UndoR (N m:Nat) (ch:Int→List Int) (kp:Int→Int) (F:FS) (id:Int) (pre rest:List Int) (F':FS):Prop where
  ok:FOk N (m+pre.length) (updc ch id rest) kp F'
  vals_ : ∀j,vals F' j=rewV F.S.l pre (vals F) j
  last:F'.S.l.last=F.S.l.last+(pre.length:Int)
  old : ∀n r,recOf F.S.l n=some r→recOf F'.S.l n=some r
  same:F'.P=F.P∧F'.sess=F.sess∧F'.ks=F.ks∧F'.most=F.most∧F'.of=F.of∧F'.free=F.free∧F'.S.frames=F.S.frames
  has_:thas F'.ts id=true
  ids:idsT F'.ts=idsT F.ts
theorem UndoR.refl {N m:Nat}{ch:Int→List Int}{kp:Int→Int}{F:FS}{id:Int}(h:FOk N m ch kp F)(hid:thas F.ts id=true):UndoR N m ch kp F id [] (ch id) F:=by
  refine⟨?_,fun j=>rfl,by simp,fun n r h=>h,⟨rfl,rfl,rfl,rfl,rfl,rfl,rfl⟩,hid,rfl⟩
  have e:updc ch id (ch id)=ch:=by funext t;unfold updc;split<;>simp_all
  rw[e];exact h
theorem UndoR.step {N m:Nat}{ch:Int→List Int}{kp:Int→Int}{F F':FS}{id k:Int}{pre ks:List Int}(hint:Int)(h:UndoR N m ch kp F id pre (k :: ks) F')(hk : ∃r,recOf F.S.l k=some r)(hkp : ∀x,0≤kp x)(hm:m+pre.length≤39000)(hfr:F.S.frames≤8) :
    ∃S' r,BackIn F' id k (ks.headD 0) r hint S'∧UndoR N m ch kp F id (pre++[k]) ks (backF F' id k (ks.headD 0) r hint):=by
  obtain⟨r,hr⟩:=hk
  have hch:updc ch id (k :: ks) id=k :: ks:=by unfold updc;rw[if_pos rfl]
  obtain⟨s1,s2,s3,s4,s5,s6,s7⟩:=h.same
  obtain⟨S',b1,b2,b3⟩:=back_in hint h.ok h.has_ hch (h.old k r hr) hkp hm (by rw[s7];exact hfr)
  have e1:updc (updc ch id (k :: ks)) id ks=updc ch id ks:=by funext t;unfold updc;split<;>rfl
  rw[e1] at b2
  obtain⟨p1,p2⟩:=placeOf_in r.key h.ok.g.pg.pages
  obtain⟨hx,hxid⟩:=tget_mem h.has_
  have hsp:=(h.ok.c.sets _ hx k (by rw[hxid,hch];exact List.mem_cons_self) r (h.old k r hr)).page
  rw[←hsp] at p1 p2
  obtain⟨S2,e2,e3,e4,e5⟩:=get_ok h.ok hint p1 p2
  obtain⟨l1,l2,l3,l4,l5⟩:=e4.ll
  have hS:backF F' id k (ks.headD 0) r hint=undoF { F' with S:=S2 } id k (ks.headD 0) r:=by unfold backF;rw[e2]
  have hfr2:S2.frames=F'.S.frames:=e4.frames
  have hro:=room_done (L:=F'.S.l) (L':=S2.l) ⟨l2,l3,l1⟩
  have hL:=chg_l S2 (recClr (tget ({ F' with S:=S2 }:FS).ts id) r k (ks.headD 0))
  have hB:(backF F' id k (ks.headD 0) r hint).S.l=(addRec S2 (recClr (tget ({ F' with S:=S2 }:FS).ts id) r k (ks.headD 0))).l:=by rw[hS];exact hL.1
  refine⟨S',r,b1,⟨?_,fun j => ?_,?_,fun n q hq => ?_,?_,?_,?_⟩⟩
  · have:m+(pre++[k]).length=m+pre.length+1:=by simp;omega
    rw[this];exact b2
  · rw[b3 j,rewV_append]
    show _=undoV F.S.l k (rewV F.S.l pre (vals F)) j
    unfold undoV
    rw[hr]
    simp only[h.vals_ j]
  · rw[hB,addRec_last,hro.2,h.last]
    simp
    omega
  · rw[hB]
    refine addRec_rec ?_
    rw[recOf_done l2 l1]
    exact h.old n q hq
  · rw[hS]
    exact⟨s1,s2,s3,s4,s5,s6,by rw[←s7,←hfr2];exact hL.2⟩
  · rw[hS]
    show thas (tnote F'.ts id _ _) id=true
    rw[thas_ids (tnote_rise h.ok.t.rise),ids_tnote,←thas_ids h.ok.t.rise]
    exact h.has_
  · rw[hS]
    show idsT (tnote F'.ts id _ _)=_
    rw[ids_tnote]
    exact h.ids
end Go.Proofs.YtaplpeoikebedaaGreatDoor.BackL
