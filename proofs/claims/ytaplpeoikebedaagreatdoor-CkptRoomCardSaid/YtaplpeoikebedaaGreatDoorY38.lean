/- Joined texts: FwdV, FwdW, FwdX, BackE, First18, ValM, CkptK, CkptR. No condition but what each says. -/
import Derived.Test.YtaplpeoikebedaaGreatDoorY26
import Derived.Test.YtaplpeoikebedaaGreatDoorY27
import Derived.Test.YtaplpeoikebedaaGreatDoorY28
import Derived.Test.YtaplpeoikebedaaGreatDoorY17
import Derived.Deep.DeepCutAuto
import Derived.BigQuiet
import Derived.Test.YtaplpeoikebedaaGreatDoorY29
import Derived.Test.YtaplpeoikebedaaGreatDoorY37
import Derived.Test.YtaplpeoikebedaaGreatDoorY31
import Derived.Test.YtaplpeoikebedaaGreatDoorY34
import Derived.Test.YtaplpeoikebedaaGreatDoorY32
import Derived.Test.YtaplpeoikebedaaGreatDoorY36
import Derived.Laws.CopyOwn
import Derived.Deep.RegionLaw
set_option maxHeartbeats 8000000
set_option maxRecDepth 100000
set_option linter.unusedVariables false
set_option linter.unusedSimpArgs false
namespace Go.Proofs.YtaplpeoikebedaaGreatDoor.FwdV
open Go.RowKit Go.Maps YtaplpeoikebedaaGreatDoorW.PrintWords YtaplpeoikebedaaGreatDoorW.PrintLast YtaplpeoikebedaaGreatDoorW.PrintMore
open See Mem Page Disk DiskN DiskW RecD Dirty Wal WalF SysD SysM PoolG Pager StoreD PageM StoreF StoreI StoreJ TransT LockT LockU SpaceT WaitT FwdM FwdP FwdC PageO FwdT
attribute [local go_sem] max2_imax min2_imin max_two min_two
end Go.Proofs.YtaplpeoikebedaaGreatDoor.FwdV
namespace Go.Proofs.YtaplpeoikebedaaGreatDoor.FwdW
open Go.RowKit Go.Maps YtaplpeoikebedaaGreatDoorW.PrintWords YtaplpeoikebedaaGreatDoorW.PrintLast YtaplpeoikebedaaGreatDoorW.PrintMore
open See Mem Page PageB PageR PageL Disk DiskN DiskW RecD Rec Dirty Wal WalF SysD SysM PoolG Pager StoreD PageM StoreF StoreG StoreI StoreJ PageO HeldT TransT LockT LockU SpaceT WaitT FwdM FwdP FwdC FwdF FwdT FwdB FwdS FwdV
attribute [local go_sem] max2_imax min2_imin max_two min_two
end Go.Proofs.YtaplpeoikebedaaGreatDoor.FwdW
namespace Go.Proofs.YtaplpeoikebedaaGreatDoor.FwdX
open Go.RowKit Go.Maps YtaplpeoikebedaaGreatDoorW.PrintWords YtaplpeoikebedaaGreatDoorW.PrintLast YtaplpeoikebedaaGreatDoorW.PrintMore
open See Mem Page PageB PageR PageL Disk DiskN DiskW RecD Rec Dirty Wal WalF SysD SysM PoolG Pager StoreD PageM StoreF StoreG StoreI StoreJ PageO HeldT TransT LockT LockU SpaceT WaitT FwdM FwdP FwdC FwdF FwdT FwdB FwdS FwdU StoreW
attribute [local go_sem] max2_imax min2_imin max_two min_two
end Go.Proofs.YtaplpeoikebedaaGreatDoor.FwdX
namespace Go.Proofs.YtaplpeoikebedaaGreatDoor.BackE
open Go.RowKit Go.Maps YtaplpeoikebedaaGreatDoorW.PrintWords YtaplpeoikebedaaGreatDoorW.PrintLast YtaplpeoikebedaaGreatDoorW.PrintMore
open See Mem Clone Go.Proofs.YtaplpeoikebedaaGreatDoor.Cell Page PageB PageR PageL Disk Dirty Pool2 RecD Wal PoolG SysD SysM StoreD StoreF StoreI StoreJ StoreW TransT LockT LockU SpaceT WaitT FwdM FwdP FwdC FwdT FwdU FwdW FwdX Pager BackM
attribute [local go_sem] max2_imax min2_imin max_two min_two
theorem eql_nil (x:Addr)(w:World):(binOp .eql 37 .nilIface (.iface 333 (.pointer (some x)))).run Tryz.prog w = .ok (.bool false) w:=by kernel_rfl
theorem ends_nil (a:Nat→Addr)(p:Value)(n hint v:Int)(is:Bool)(w:World)(hs:SentsAll w a) :
    Calls Tryz.prog 87 #[p,.int .i64 n,.int .i64 hint,.int .i64 v,.bool is,.nilIface] w fun e w'=>e = .returned (.tuple #[.int .i64 v,.bool is,.nilIface])∧Below w.heap.size w w':=by
  have hg11:w.cell? ⟨12,0,none⟩=some (.iface 333 (.pointer (some (a 11)))):=hs.cell 11 (by decide)
  have hg8:w.cell? ⟨2,0,none⟩=some (.iface 333 (.pointer (some (a 8)))):=hs.cell 8 (by decide)
  have he11:=eql_nil (a 11) w
  have he8:=eql_nil (a 8) w
  clear hs
  go_enter Tryz.func87,Tryz.ntmps87
  go_wp2_with fail
  exact bodyPost_ret (v:=.tuple #[.int .i64 v,.bool is,.nilIface]) (by simp[results,Tryz.results87,go_sem]) rfl ⟨rfl,Below.refl _ _⟩
theorem bput_calls (a:Nat→Addr)(M:Nat→Prop)(bp bm sp lp pp dp qp mp:Nat)(blocks frames:Int)(B:BSt)(n key v hint:Int)(N m:Nat)(ch:Int→List Int)(kp:Int→Int)(own:Int→Int)(F':FS)(old:Int)(had:Bool)(w:World)(h:BkM M w bp bm sp lp pp dp qp mp blocks frames B)(hR:putR B.F n key v hint=(F',old,had,none))(hok:FOk N m ch kp B.F)(hk:KOk own B.F.ks)(he:own key=n)(hs:SentsAll w a)(hO:OutAll M a)(h0:0≤n)(h1:n<B.F.sess)(h2:B.F.sess≤1000)
    (hx:thas B.F.ts (B.F.of n)=true) (hk0:0≤key) (hk1:key<1048576) (hl:B.F.ks.length≤80000) (hm:m≤30000) (hh0 : -9223372036854775808≤hint) (hh1:hint≤9223372036854775807) (hv:is64 v) :
    Calls Tryz.prog 33 #[.pointer (some ⟨bp,0,none⟩),.int .i64 n,.int .i64 key,.int .i64 v,.int .i64 hint] w fun e w'=>e = .returned (.tuple #[.int .i64 old,.bool had,.nilIface])∧BkPost M bp bm sp lp pp dp qp mp blocks frames { B with F:=F' } w w':=by
  obtain⟨R,sl,h⟩:=h
  have HP:=Aside0.mk (put_calls a R sp lp pp dp qp mp blocks frames B.F n key v hint N m ch kp own w h.f hok hk he hs (OutAll.sub (M':=R) hO fun k hk=>(h.r k hk).1) h0 h1 h2 hx hk0 hk1 hl hm hh0 hh1 hv)
  unfold PutPost at HP
  rw[hR] at HP
  have HH:=Aside0.mk h
  have HS:=Aside0.mk hs
  have HO:=Aside0.mk hO
  obtain⟨c0,c1⟩:=h.cells
  have hbl:=heap_lt h.box
  clear h hR hok hk he hs hO hx hl hm hv h0 h1 h2
  go_enter Tryz.func33,Tryz.ntmps33
  go_wp2_with fail
  refine HP.out.mono ?_
  rintro e w1 ⟨rfl,hp⟩
  have HP1:=Aside0.mk (HH.out.fw hp)
  have HS1:=Aside0.mk (SentsAll.kp HS.out HP1.out.2 HO.out)
  clear hp c0 c1 hbl
  rw[show errv a none = .nilIface from rfl]
  go_wp2_with fail
  refine (ends_nil a _ n hint old had w1 HS1.out).mono ?_
  rintro e w2 ⟨rfl,hb⟩
  have HP2:=Aside0.mk (BkPost.step HP1.out hb)
  clear hb
  go_wp2_with fail
  exact bodyPost_ret (v:=.tuple #[.int .i64 old,.bool had,.nilIface]) (by simp[results,Tryz.results33,go_sem]) rfl ⟨rfl,HP2.out⟩
end Go.Proofs.YtaplpeoikebedaaGreatDoor.BackE
namespace Go.Proofs.YtaplpeoikebedaaGreatDoor.First18
open Go.RowKit Go.Maps YtaplpeoikebedaaGreatDoorW.PrintWords YtaplpeoikebedaaGreatDoorW.PrintLast YtaplpeoikebedaaGreatDoorW.PrintMore
open See Mem Page Disk DiskN RecD Dirty Pool2 Pool3 Wal Fresh SysD SysM StoreD StoreF StoreI StoreJ RoomD TransT LockT LockU SpaceT WaitT FwdM FwdP FwdC FwdE FwdT FwdN FwdO FwdB FwdG First17 RefN BackA BackM BackW BackV BackU BackB BackN
attribute [local go_sem] max2_imax min2_imin max_two min_two
end Go.Proofs.YtaplpeoikebedaaGreatDoor.First18
namespace Go.Proofs.YtaplpeoikebedaaGreatDoor.ValM
open Go.RowKit Go.Maps YtaplpeoikebedaaGreatDoorW.PrintWords YtaplpeoikebedaaGreatDoorW.PrintLast YtaplpeoikebedaaGreatDoorW.PrintMore
open See Mem Page Disk Pool2 SysD SysM StoreD StoreF FwdM FwdP FwdT BackM
def arrB (hs:Int→Bool):Array Value:=((List.range 30).map fun j:Nat=>Value.bool (hs j)).toArray
def arrV (vl:Int→Int):Array Value:=((List.range 30).map fun j:Nat=>Value.int .i64 (vl j)).toArray
def Mx (n:Nat)(l:List Nat):Nat→Prop:=fun k=>n≤k∧k∉l
theorem mx_up {n:Nat}{l:List Nat}{w1 w2:World}{bp bm sp lp pp dp qp mp:Nat}{blocks frames:Int}{B:BSt}(h:BkPost (Mx n l) bp bm sp lp pp dp qp mp blocks frames B w1 w2)(hn:n≤w1.heap.size)(hl : ∀k∈l,k<w1.heap.size):BkM (Mx n l) w2 bp bm sp lp pp dp qp mp blocks frames B∧Below n w1 w2∧∀k∈l,w2.heap[k]? = w1.heap[k]? := by
  refine⟨BkM.mono h.1 fun k hk => ?_,h.2.below (fun k hk=>hk.1) hn,fun k hk=>h.2.block k (hl k hk) fun hm=>hm.2 hk⟩
  rcases hk with hk | ⟨a,b⟩
  · exact hk
  · exact⟨by omega,fun hx=>by have:=hl k hx;omega⟩
structure VaM (n b1 b2 b3 b4:Nat) (bp bm sp lp pp dp qp mp:Nat) (blocks frames:Int) (hs hs0:Int→Bool) (vl vl0:Int→Int) (w0:World) (B:BSt) (w:World):Prop where
  bk:BkM (Mx n [b1,b2,b3,b4]) w bp bm sp lp pp dp qp mp blocks frames B
  below:Below n w0 w
  size:n≤w.heap.size
  ge:n≤b1∧n≤b2∧n≤b3∧n≤b4
  ne:b1<b2∧b2<b3∧b3<b4
  a1:w.heap[b1]? = some (.cells (arrB hs) 43 (0,0))
  a2:w.heap[b2]? = some (.cells (arrB hs0) 43 (0,0))
  a3:w.heap[b3]? = some (.cells (arrV vl) 44 (0,0))
  a4:w.heap[b4]? = some (.cells (arrV vl0) 44 (0,0))
section
variable {n b1 b2 b3 b4:Nat}{bp bm sp lp pp dp qp mp:Nat}{blocks frames:Int}{hs hs0:Int→Bool}{vl vl0:Int→Int}{w0 w w':World}{B B':BSt}
theorem VaM.up (h:VaM n b1 b2 b3 b4 bp bm sp lp pp dp qp mp blocks frames hs hs0 vl vl0 w0 B w)(hp:BkPost (Mx n [b1,b2,b3,b4]) bp bm sp lp pp dp qp mp blocks frames B' w w'):VaM n b1 b2 b3 b4 bp bm sp lp pp dp qp mp blocks frames hs hs0 vl vl0 w0 B' w':=by
  obtain⟨x,y,z⟩:=mx_up hp h.size fun k hk=>by
    simp only[List.mem_cons,List.not_mem_nil,or_false] at hk
    rcases hk with rfl | rfl | rfl | rfl
    · exact heap_lt h.a1
    · exact heap_lt h.a2
    · exact heap_lt h.a3
    · exact heap_lt h.a4
  exact⟨x,h.below.trans y,Nat.le_trans h.size y.size,h.ge,h.ne,(z _ (by simp)).trans h.a1,(z _ (by simp)).trans h.a2,(z _ (by simp)).trans h.a3,(z _ (by simp)).trans h.a4⟩
theorem VaM.low (h:VaM n b1 b2 b3 b4 bp bm sp lp pp dp qp mp blocks frames hs hs0 vl vl0 w0 B w)(hb:Below w.heap.size w w'):VaM n b1 b2 b3 b4 bp bm sp lp pp dp qp mp blocks frames hs hs0 vl vl0 w0 B w':=
  ⟨h.bk.below hb,h.below.trans (hb.mono h.size),Nat.le_trans h.size hb.size,h.ge,h.ne,(hb.block _ (heap_lt h.a1)).trans h.a1,(hb.block _ (heap_lt h.a2)).trans h.a2,(hb.block _ (heap_lt h.a3)).trans h.a3,(hb.block _ (heap_lt h.a4)).trans h.a4⟩
theorem VaM.box (h:VaM n b1 b2 b3 b4 bp bm sp lp pp dp qp mp blocks frames hs hs0 vl vl0 w0 B w):w.cell? ⟨bp,0,none⟩=some (.pointer (some ⟨sp,0,none⟩))∧bp<w.heap.size:=by
  obtain⟨R,sl,hi⟩:=h.bk
  exact⟨hi.cells.1,heap_lt hi.box⟩
end
theorem alloc_len (w:World)(o:Obj):(w.alloc o).heap.size=w.heap.size+1:=by
  show (w.heap.push o).size=_
  rw[Array.size_push]
theorem alloc_after {w W:World}{o:Obj}{k:Nat}(hk:w.heap.size=k)(hb:Below (w.alloc o).heap.size (w.alloc o) W):W.heap[k]? = some o:=by
  subst hk
  refine (hb.block _ (by rw[alloc_len];omega)).trans ?_
  show (w.heap.push o)[w.heap.size]? = some o
  exact Array.getElem?_push_size
end Go.Proofs.YtaplpeoikebedaaGreatDoor.ValM
namespace Go.Proofs.YtaplpeoikebedaaGreatDoor.CkptK
open Go.RowKit Go.Maps YtaplpeoikebedaaGreatDoorW.PrintWords YtaplpeoikebedaaGreatDoorW.PrintLast YtaplpeoikebedaaGreatDoorW.PrintMore
open See Mem Page Disk DiskW DiskS RecD Wal Pool2 SysD SysM PoolF PoolE PoolG PoolA StoreD StoreF StoreI StoreJ SpaceT FwdM FwdP BackM BackU MasC MasT CkptD CkptM
attribute [local go_sem] max2_imax min2_imin max_two min_two
def keepD (d:Dsk)(m:Mst):Dsk:=syncD (writeD d 0 (mstBytes m))
theorem keep_good {d:Dsk}{n:Nat}{m:Mst}(h:GoodD.Good d n)(hn:0<n):GoodD.Good (keepD d m) n∧(∀j,readV (keepD d m) j=if j=0 then mstBytes m else readV d j)∧∀s∈(keepD d m).l,s.loose=[]:=by
  obtain⟨x1,x2,x3⟩:=h.write (i:=0) (b:=mstBytes m) (Int.le_refl 0) (by omega) (mst_sec m).1
  obtain⟨y1,y2,y3⟩:=x2.sync
  refine⟨y2,fun j=>(y3 j).trans (x3 j),fun s hs => ?_⟩
  have hd:(syncD (writeD d 0 (mstBytes m))).l=(writeD d 0 (mstBytes m)).l.map fastS:=by
    have h1:=x2.on
    have h2:=x2.fuse
    unfold syncD
    rw[if_neg (by rw[h1];decide),if_pos (by unfold spendB;rw[h2];decide)]
  have hs':s∈(syncD (writeD d 0 (mstBytes m))).l:=hs
  rw[hd] at hs'
  obtain⟨x,_,rfl⟩:=List.mem_map.1 hs'
  rfl
theorem keep_calls (a:Nat→Addr)(M:Nat→Prop)(dp:Nat)(d:Dsk)(m:Mst)(n:Nat)(w:World)(hs:Sents w a)(hO:Out M a)(hd:DskM M w dp d)(hg:GoodD.Good d n)(hn:0<n)(hm:MOk m)(hfew : ∀s∈d.l,s.loose.length≤90000) :
    Calls Tryz.prog 108 #[.pointer (some ⟨dp,0,none⟩),mstV m] w fun e w'=>e = .returned .nilIface∧DskM (Gr M w w') w' dp (keepD d m)∧Frm dTurn M w w':=by
  obtain⟨x1,x2,x3⟩:=hg.write (i:=0) (b:=mstBytes m) (Int.le_refl 0) (by omega) (mst_sec m).1
  obtain⟨y1,y2,y3⟩:=x2.sync
  have HS:=Aside0.mk hs
  have HO:=Aside0.mk hO
  have HBY:=Aside0.mk (mbytes_calls m hm)
  have HWR:=Aside0.mk (fun (w1:World) (v:Value) (h1:Below w.heap.size w w1) (hv:BS w1 v (mstBytes m))=>write_disk a M dp d 0 v (mstBytes m) w1 (HS.out.below h1) HO.out (hd.below h1) hv (mst_sec m).2 (by unfold FuseOk;rw[hg.fuse];omega) (fun s hs=>Nat.le_trans (hfew s hs) (by omega)))
  have HSY:=Aside0.mk (fun (w1 w2:World) (h1:Below w.heap.size w w1) (hp:WritePost a M dp d 0 (mstBytes m) w1 (.returned .nilIface) w2)=>sync_disk a (Gr M w1 w2) dp (writeD d 0 (mstBytes m)) w2 (sents_frm (HS.out.below h1) hp.2.2 HO.out) (HO.out.gr (HS.out.below h1)) hp.2.1 (by unfold FuseOk;rw[x2.fuse];omega) (fun s hs=>by
    have hl:(writeD d 0 (mstBytes m)).l=d.l.modify 0 fun s=>⟨s.fast,s.loose++[mstBytes m]⟩:=by
      unfold writeD
      rw[if_neg (by rw[hg.on];decide),if_pos (hg.inD (Int.le_refl 0) (by omega)),if_pos (mst_sec m).1,spendD_l]
      rfl
    rw[hl] at hs
    obtain⟨j,hj⟩:=List.mem_iff_getElem?.1 hs
    rw[List.getElem?_modify] at hj
    obtain⟨y,hy,e⟩:=Option.map_eq_some_iff.1 hj
    have:=hfew y (List.mem_of_getElem? hy)
    rw[←e]
    split
    · simp;omega
    · omega))
  have HWE:=Aside0.mk x1
  have HSE:=Aside0.mk y1
  have HPO:=Aside0.mk (fun (w1 w2 w3:World) (h1:Below w.heap.size w w1) (hp:WritePost a M dp d 0 (mstBytes m) w1 (.returned .nilIface) w2) (hq:SyncPost a (Gr M w1 w2) dp (writeD d 0 (mstBytes m)) w2 (.returned .nilIface) w3)=>(show DskM (Gr M w w3) w3 dp (keepD d m)∧Frm dTurn M w w3 from by
    have hz1:=h1.size
    have hz2:=hp.2.2.size
    have hz3:=hq.2.2.size
    refine⟨hq.2.1.mono fun k hk => ?_,(Frm.of_below h1).trans (hp.2.2.transG hq.2.2)⟩
    rcases hk with hk | ⟨x,y⟩
    · exact .inl hk
    · exact .inr ⟨by omega,by omega⟩))
  clear hs hO hd hg hn hm hfew x1 x2 x3 y1 y2 y3
  obtain⟨mm,hmm⟩ : ∃mm,mm=m:=⟨_,rfl⟩
  rw[←hmm] at HBY HWR HSY HWE HSE HPO
  have HMM:=Aside0.mk hmm
  clear hmm
  obtain⟨ep,ba,re,ck,pg,bl,fr⟩:=m
  have HBY2:=Aside0.mk (show ∀w,Calls Tryz.prog 105 #[.agg #[.int .i64 ep,.int .i64 ba,.int .i64 re,.int .i64 ck,.int .i64 pg,.int .i64 bl,.int .i64 fr]] w fun e w' => ∃v,e = .returned (.tuple #[v,.nilIface])∧BS w' v (mstBytes mm)∧Below w.heap.size w w' from fun w=>by
    have:=HBY.out w
    rw[HMM.out] at this ⊢
    exact this)
  clear HBY
  go_enter Tryz.func108,Tryz.ntmps108
  go_wp2_with fail
  refine (HBY2.out _).mono ?_
  rintro e w1 ⟨v,rfl,hv,hb⟩
  have HV:=Aside0.mk hv
  have HB:=Aside0.mk (below_step (below_alloc (Below.refl w.heap.size w) _) hb)
  obtain⟨A,c,rfl,_,_⟩:=Rd.form hv
  clear hv hb
  go_wp2_with fail
  refine (HWR.out w1 _ HB.out HV.out).mono ?_
  rintro e w2 hp
  obtain rfl:e = .returned .nilIface:=by rw[hp.1,HWE.out];rfl
  have HP2:=Aside0.mk hp
  clear hp
  go_wp2_with fail
  refine (HSY.out w1 w2 HB.out HP2.out).mono ?_
  rintro e w3 hp
  obtain rfl:e = .returned .nilIface:=by rw[hp.1,HSE.out];rfl
  have HP3:=Aside0.mk (HPO.out w1 w2 w3 HB.out HP2.out hp)
  clear hp
  go_wp2_with fail
  go_ret
  exact⟨rfl,by rw[←HMM.out];exact HP3.out⟩
theorem cknew_calls (n0 bp dp:Nat)(m:Mst)(w:World) :
    Calls Tryz.prog 94 #[.pointer (some ⟨bp,0,none⟩),.pointer (some ⟨dp,0,none⟩),mstV m] w fun e w' => ∃cp,e = .returned (.pointer (some ⟨cp,0,none⟩))∧w.heap.size≤cp∧w'.heap[cp]? = some (.cells (ckCells bp dp m) 86 (0,0))∧Below w.heap.size w w':=by
  obtain⟨ep,ba,re,ck,pg,bl,fr⟩:=m
  go_enter Tryz.func94,Tryz.ntmps94
  go_wp2_with fail
  exact bodyPost_ret (v:=.pointer (some ⟨w.heap.size+1,0,none⟩)) (by simp[results,Tryz.results94,go_sem]) rfl ⟨w.heap.size+1,rfl,by omega,ValM.alloc_after (ValM.alloc_len w _) (Below.refl _ _),below_alloc (below_alloc (Below.refl _ _) _) _⟩
section
variable (a:Nat→Addr)(M:Nat→Prop)(cp bp bm sp lp pp dp qp mp:Nat)(blocks frames:Int)(B:BSt)(m:Mst)(N mm:Nat)(f:Int→Option Int)(P:Int)(w:World)
end
end Go.Proofs.YtaplpeoikebedaaGreatDoor.CkptK
namespace Go.Proofs.YtaplpeoikebedaaGreatDoor.CkptR
open Go.RowKit Go.Maps YtaplpeoikebedaaGreatDoorW.PrintWords YtaplpeoikebedaaGreatDoorW.PrintLast YtaplpeoikebedaaGreatDoorW.PrintMore
open See Mem Page PageR Disk DiskW RecD Rec BlockB Wal Pool2 StoreD TransT
attribute [local go_sem] max2_imax min2_imin max_two min_two
def ckB:RecV:=⟨7,0,0,0,0,0,false,false,0,0⟩
def ckT (t:Tx):RecV:=⟨8,t.id,0,t.last,t.next,t.state,false,false,0,0⟩
def ckP (d:Int×Int):RecV:=⟨9,0,d.1,d.2,0,0,false,false,0,0⟩
def ckE (most:Int):RecV:=⟨10,0,0,0,most,0,false,false,0,0⟩
def recsL (most:Int)(ts:List Tx)(ds:List (Int×Int)):List RecV:=ckB :: ts.map ckT++ds.map ckP++[ckE most]
def RS (w:World)(b:Nat)(v:Value)(l:List RecV):Prop:=w.ownsRow b 46 10 v l.length (recCells l)
theorem RS.below {w w':World}{b:Nat}{v:Value}{l:List RecV}(h:RS w b v l)(hb:Below w.heap.size w w'):RS w' b v l:=ow_below h hb
theorem recL_one (r:RecV) : ∀u∈recL r,u.oneCell'=true:=fun u hu=>recCells_one [r] u (by simpa [recCells] using hu)
theorem ow_fresh {W:World}{b base e:Nat}{r:RecV}(h:W.heap[b]? = some (.cells (recA r) e (0,0)))(hb:base≤b):W.ownsRow base e 10 (.slice (some ⟨b,0,none⟩) 1 1) 1 (recL r):=
  ⟨rfl,.inr ⟨b,1,recA r,rfl,hb,h,Nat.le_refl _,by decide,rfl,rfl⟩⟩
theorem rs_push {w:World}{b:Nat}{v:Value}{n:Nat}{l:List RecV}{r:RecV}(hn:l.length=n)(h:w.ownsRow b 46 10 v (n+1) (recCells l++recL r)):RS w b v (l++[r]):=by
  unfold RS
  rw[List.length_append,recCells_append,hn]
  have e:recCells [r]=recL r:=by simp[recCells]
  rw[e]
  exact h
theorem take_push {α:Type}{l:List α}{i:Nat}{x:α}(h:l[i]? = some x):l.take (i+1)=l.take i++[x]:=by
  obtain⟨h1,h2⟩:=List.getElem?_eq_some_iff.1 h
  rw[List.take_succ_eq_append_getElem h1,h2]
theorem p2_at {w:World}{t:Nat}{A:Option Addr}{l cap:Nat}{es:List (Int×Int)}(h:P2 w t (.slice A l cap) es){i:Nat}{f:Int×Int}(hi:es[i]? = some f) :
    ∃g,A=some ⟨g,0,none⟩∧l=es.length∧w.cell? ⟨g,i*2,none⟩=some (.int .i64 f.1)∧w.cell? ⟨g,i*2+1,none⟩=some (.int .i64 f.2):=by
  rcases h.form with ⟨_,h0⟩ | ⟨g,c,hv,hc⟩
  · rw[h0] at hi;cases hi
  · injection hv with h1 h2 h3
    subst h1 h2
    obtain⟨a1,a2⟩:=hc.1 i f hi
    exact⟨g,rfl,rfl,a1,a2⟩
theorem tr_at {w:World}{A:Option Addr}{l cap:Nat}{ts:List Tx}(h:TR w (.slice A l cap) ts){i:Nat}{t:Tx}(hi:ts[i]? = some t) :
    ∃g,A=some ⟨g,0,none⟩∧l=ts.length∧(w.cell? ⟨g,i*4,none⟩=some (.int .i64 t.id)∧w.cell? ⟨g,i*4+1,none⟩=some (.int .i64 t.state)∧w.cell? ⟨g,i*4+2,none⟩=some (.int .i64 t.last)∧w.cell? ⟨g,i*4+3,none⟩=some (.int .i64 t.next)):=by
  rcases h.form with ⟨_,h0⟩ | ⟨g,c,hv,hc,_⟩
  · rw[h0] at hi;cases hi
  · injection hv with h1 h2 h3
    subst h1 h2
    exact⟨g,rfl,rfl,hc i t hi⟩
theorem records_calls (most:Int)(vt vd:Value)(ts:List Tx)(ds:List (Int×Int))(w:World)(ht:TR w vt ts)(hd:P2 w 288 vd ds)(h1:ts.length≤10000)(h2:ds.length≤10000) :
    Calls Tryz.prog 150 #[.int .i64 most,vt,vd] w fun e w' => ∃v,e = .returned v∧RS w' w.heap.size v (recsL most ts ds)∧Below w.heap.size w w':=by
  obtain⟨i0,hi,hzz⟩:=Option.map_eq_some_iff.1 info_rec
  simp only[Prod.mk.injEq] at hzz
  obtain⟨hz0,hz1,hz2⟩:=hzz
  have HI0:=Aside0.mk (And.intro hi (And.intro hz0 (And.intro hz1 hz2)))
  obtain⟨A,cap,rfl,_⟩:=ow_slice ht.1
  obtain⟨D,dap,rfl,_⟩:=ow_slice hd.1
  obtain⟨nt,hnt⟩ : ∃n,ts.length=n:=⟨_,rfl⟩
  obtain⟨nd,hnd⟩ : ∃n,ds.length=n:=⟨_,rfl⟩
  have HT:=Aside0.mk ht
  have HD:=Aside0.mk hd
  have HNT:=Aside0.mk hnt
  have HND:=Aside0.mk hnd
  rw[hnt] at h1 ⊢
  rw[hnd] at h2 ⊢
  clear hi hz0 hz1 hz2 ht hd hnt hnd
  go_enter Tryz.func150,Tryz.ntmps150
  go_wp2_with fail
  have HR0:=Aside0.mk (show RS (w.alloc (.cells (recA ckB) 46)) w.heap.size (.slice (some ⟨w.heap.size,0,none⟩) 1 1) (ckB :: (ts.take 0).map ckT) from ow_fresh (heap_alloc_new w _) (Nat.le_refl _))
  go_loopg [7,16] (nt+1) (fun kq v7 v16 w' => ∃(i:Int) (sl:Value),v7=sl∧v16 = .int .i64 i∧Aside0 (0≤i∧i≤nt∧(kq:Int)=nt+1 - i)∧Aside0 (RS w' w.heap.size sl (ckB :: (ts.take i.toNat).map ckT))∧Aside0 (Below w.heap.size w w'))
  case atStart=>exact⟨0,_,rfl,rfl,⟨by omega,by omega,by omega⟩,HR0,⟨below_alloc (Below.refl _ _) _⟩⟩
  case round=>
    clear HR0
    obtain⟨i,sl,rfl,rfl,HI,HS,HB⟩:=hrel
    have hi0:0≤i:=HI.out.1
    by_cases hlt:i<nt
    · obtain⟨f,hf⟩ : ∃f,ts[i.toNat]? = some f:=⟨_,List.getElem?_eq_getElem (by have:=HNT.out;omega)⟩
      obtain⟨g,rfl,hll,hd0,hd1,hd2,hd3⟩:=tr_at (HT.out.below HB.out) hf
      have HW:=Aside0.mk (show (ckB :: (ts.take i.toNat).map ckT)++[ckT f]=ckB :: (ts.take (i.toNat+1)).map ckT from by rw[take_push hf];simp)
      obtain⟨xi,xs,xl,xn⟩:=f
      simp only at hd0 hd1 hd2 hd3
      obtain⟨l,hl⟩ : ∃l,ckB :: (ts.take i.toNat).map ckT=l:=⟨_,rfl⟩
      rw[hl] at HS HW
      obtain⟨n,hn⟩ : ∃n,l.length=n:=⟨_,rfl⟩
      have HNN:=Aside0.mk hn
      have hn5:n≤100000:=by rw[←hn,←hl];simp;omega
      obtain⟨oA,oc,hu7,_⟩:=ow_slice HS.out
      rw[hn] at hu7
      obtain⟨hi,hz0,hz1,hz2⟩:=HI0.out
      clear hf hll hn hl
      subst hu7
      go_wp2_with (at_builtin;refine wpList_append_lies _ (by rfl) _ _ 119 (by rfl) w.heap.size 46 i0 (.agg #[.int .i64 0,.int .i64 0,.int .i64 0,.int .i64 0,.int .i64 0,.int .i64 0,.bool false,.bool false,.int .i64 0,.int .i64 0]) 10 72 Tryz.underlying119 hi hz0 hz1 hz2 rfl (by decide) _ n (recCells l) (by rfl) ?own ⟨wr.heap.size+1,0,none⟩ 1 1 (recL (ckT ⟨xi,xs,xl,xn⟩)) (by rfl) rfl ?news (recL_one _) (by decide) (len_ok hn5) ?by8 ?base (wr.heap.size+2) ?hh ?_)
      case own=>have:=HS.out;unfold RS at this;rw[HNN.out] at this;exact ow_below this (by repeat (first | exact Below.refl _ _ | apply below_drew1 | apply below_alloc))
      case news=>exact news10_at (wr.alloc _) _ (by simp) (ckT ⟨xi,xs,xl,xn⟩) _
      case by8=>omega
      case base=>have:=HB.out.size;simp;omega
      case hh=>simp
      intro g2 cap2 w3 hown hgr hor hlt3
      have HO3:=Aside0.mk (rs_push HNN.out hown)
      rw[HW.out] at HO3
      have HB3:=Aside0.mk (show Below w.heap.size w w3 from (HB.out.trans (Below.mono (show Below wr.heap.size wr ((wr.alloc (.cells #[.int .i64 xi,.int .i64 xs,.int .i64 xl,.int .i64 xn] 102)).alloc (.cells (recA (ckT ⟨xi,xs,xl,xn⟩)) 46)) by repeat (first | exact Below.refl _ _ | apply below_drew1 | apply below_alloc)) HB.out.size)).grown (w:=_) hgr (by have:=HB.out.size;simp;omega) (fun k hk=>by have h:=HS.out;exact (ow_block h hk).1))
      clear hown hgr hor hlt3 hi hz0 hz1 hz2
      go_wp2_with fail
      go_roundg (gk - 1)
      case measure=>have:=HI.out;omega
      case rel=>exact⟨i+1,_,rfl,rfl,⟨by omega,by omega,by have:=HI.out;omega⟩,⟨by rw[show (i+1).toNat=i.toNat+1 from by omega];exact HO3.out⟩,HB3⟩
    · have HS1:=Aside0.mk (show RS wr w.heap.size u7 ((ckB :: ts.map ckT)++(ds.take 0).map ckP) from by
        have:=HS.out
        rw[List.take_of_length_le (by have:=HNT.out;have:=HI.out;omega)] at this
        simpa using this)
      clear HS
      go_wp2_with fail
      go_loopg [7,35] (nd+1) (fun kq v7 v35 w' => ∃(i:Int) (sl:Value),v7=sl∧v35 = .int .i64 i∧Aside0 (0≤i∧i≤nd∧(kq:Int)=nd+1 - i)∧Aside0 (RS w' w.heap.size sl ((ckB :: ts.map ckT)++(ds.take i.toNat).map ckP))∧Aside0 (Below w.heap.size w w'))
      case atStart=>exact⟨0,_,rfl,rfl,⟨by omega,by omega,by omega⟩,HS1,HB⟩
      case round=>
        clear HS1 HI
        obtain⟨i,sl,rfl,rfl,HI,HS,HB⟩:=hrel
        have hi0:0≤i:=HI.out.1
        by_cases hlt:i<nd
        · obtain⟨f,hf⟩ : ∃f,ds[i.toNat]? = some f:=⟨_,List.getElem?_eq_getElem (by have:=HND.out;omega)⟩
          obtain⟨g,rfl,hll,hd0,hd1⟩:=p2_at (HD.out.below HB.out) hf
          have HW:=Aside0.mk (show ((ckB :: ts.map ckT)++(ds.take i.toNat).map ckP)++[ckP f]=(ckB :: ts.map ckT)++(ds.take (i.toNat+1)).map ckP from by rw[take_push hf];simp)
          obtain⟨xp,xf⟩:=f
          simp only at hd0 hd1
          obtain⟨l,hl⟩ : ∃l,(ckB :: ts.map ckT)++(ds.take i.toNat).map ckP=l:=⟨_,rfl⟩
          rw[hl] at HS HW
          obtain⟨n,hn⟩ : ∃n,l.length=n:=⟨_,rfl⟩
          have HNN:=Aside0.mk hn
          have hn5:n≤100000:=by rw[←hn,←hl];have:=HNT.out;simp;omega
          obtain⟨oA,oc,hu7,_⟩:=ow_slice HS.out
          rw[hn] at hu7
          obtain⟨hi,hz0,hz1,hz2⟩:=HI0.out
          clear hf hll hn hl
          subst hu7
          go_wp2_with (at_builtin;refine wpList_append_lies _ (by rfl) _ _ 119 (by rfl) w.heap.size 46 i0 (.agg #[.int .i64 0,.int .i64 0,.int .i64 0,.int .i64 0,.int .i64 0,.int .i64 0,.bool false,.bool false,.int .i64 0,.int .i64 0]) 10 72 Tryz.underlying119 hi hz0 hz1 hz2 rfl (by decide) _ n (recCells l) (by rfl) ?own ⟨wr.heap.size+1,0,none⟩ 1 1 (recL (ckP (xp,xf))) (by rfl) rfl ?news (recL_one _) (by decide) (len_ok hn5) ?by8 ?base (wr.heap.size+2) ?hh ?_)
          case own=>have:=HS.out;unfold RS at this;rw[HNN.out] at this;exact ow_below this (by repeat (first | exact Below.refl _ _ | apply below_drew1 | apply below_alloc))
          case news=>exact news10_at (wr.alloc _) _ (by simp) (ckP (xp,xf)) _
          case by8=>omega
          case base=>have:=HB.out.size;simp;omega
          case hh=>simp
          intro g2 cap2 w3 hown hgr hor hlt3
          have HO3:=Aside0.mk (rs_push HNN.out hown)
          rw[HW.out] at HO3
          have HB3:=Aside0.mk (show Below w.heap.size w w3 from (HB.out.trans (Below.mono (show Below wr.heap.size wr ((wr.alloc (.cells #[.int .i64 xp,.int .i64 xf] 288)).alloc (.cells (recA (ckP (xp,xf))) 46)) by repeat (first | exact Below.refl _ _ | apply below_drew1 | apply below_alloc)) HB.out.size)).grown (w:=_) hgr (by have:=HB.out.size;simp;omega) (fun k hk=>by have h:=HS.out;exact (ow_block h hk).1))
          clear hown hgr hor hlt3 hi hz0 hz1 hz2
          go_wp2_with fail
          go_roundg (gk - 1)
          case measure=>have:=HI.out;omega
          case rel=>exact⟨i+1,_,rfl,rfl,⟨by omega,by omega,by have:=HI.out;omega⟩,⟨by rw[show (i+1).toNat=i.toNat+1 from by omega];exact HO3.out⟩,HB3⟩
        · obtain⟨l,hl⟩ : ∃l,(ckB :: ts.map ckT)++ds.map ckP=l:=⟨_,rfl⟩
          have HL:=Aside0.mk hl
          have HS1:=Aside0.mk (show RS wr w.heap.size u7 l from by
            have:=HS.out
            rw[List.take_of_length_le (by have:=HND.out;have:=HI.out;omega)] at this
            rw[←hl]
            exact this)
          obtain⟨n,hn⟩ : ∃n,l.length=n:=⟨_,rfl⟩
          have HNN:=Aside0.mk hn
          have hn5:n≤100000:=by rw[←hn,←hl];have:=HNT.out;have:=HND.out;simp;omega
          obtain⟨oA,oc,hu7,_⟩:=ow_slice HS1.out
          rw[hn] at hu7
          obtain⟨hi,hz0,hz1,hz2⟩:=HI0.out
          clear hn hl HS
          subst hu7
          go_wp2_with (at_builtin;refine wpList_append_lies _ (by rfl) _ _ 119 (by rfl) w.heap.size 46 i0 (.agg #[.int .i64 0,.int .i64 0,.int .i64 0,.int .i64 0,.int .i64 0,.int .i64 0,.bool false,.bool false,.int .i64 0,.int .i64 0]) 10 72 Tryz.underlying119 hi hz0 hz1 hz2 rfl (by decide) _ n (recCells l) (by rfl) ?own ⟨wr.heap.size,0,none⟩ 1 1 (recL (ckE most)) (by rfl) rfl ?news (recL_one _) (by decide) (len_ok hn5) ?by8 ?base (wr.heap.size+1) ?hh ?_)
          case own=>have:=HS1.out;unfold RS at this;rw[HNN.out] at this;exact ow_below this (by repeat (first | exact Below.refl _ _ | apply below_drew1 | apply below_alloc))
          case news=>first | exact news10_at wr _ rfl (ckE most) _ | exact fun j u hj=>hj
          case by8=>omega
          case base=>have:=HB.out.size;simp;omega
          intro g2 cap2 w3 hown hgr hor hlt3
          have HO3:=Aside0.mk (rs_push HNN.out hown)
          have HB3:=Aside0.mk (show Below w.heap.size w w3 from (HB.out.trans (Below.mono (show Below wr.heap.size wr (wr.alloc (.cells (recA (ckE most)) 46)) by repeat (first | exact Below.refl _ _ | apply below_drew1 | apply below_alloc)) HB.out.size)).grown (w:=_) hgr (by have:=HB.out.size;simp;omega) (fun k hk=>by have h:=HS1.out;exact (ow_block h hk).1))
          clear hown hgr hor hlt3 hi hz0 hz1 hz2
          go_wp2_with fail
          go_ret
          exact⟨_,rfl,by
            have:=HO3.out
            rw[←HL.out] at this
            exact this,HB3.out⟩
end Go.Proofs.YtaplpeoikebedaaGreatDoor.CkptR
