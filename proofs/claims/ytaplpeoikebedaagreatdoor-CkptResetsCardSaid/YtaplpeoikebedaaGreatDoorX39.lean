/- Joined texts: FwdW, FwdX, BackE, First18, ValM, CkptK. No condition but what each says. -/
import Derived.Test.YtaplpeoikebedaaGreatDoorX30
import Derived.Test.YtaplpeoikebedaaGreatDoorX38
import Derived.Test.YtaplpeoikebedaaGreatDoorX33
import Derived.Test.YtaplpeoikebedaaGreatDoorX35
import Derived.Test.YtaplpeoikebedaaGreatDoorX34
import Derived.Test.YtaplpeoikebedaaGreatDoorX37
import Derived.Test.YtaplpeoikebedaaGreatDoorX36
import Derived.Laws.CopyOwn
import Derived.Deep.RegionLaw
set_option maxHeartbeats 8000000
set_option maxRecDepth 100000
set_option linter.unusedVariables false
set_option linter.unusedSimpArgs false
namespace Go.Proofs.YtaplpeoikebedaaGreatDoor.FwdW
open Go.RowKit Go.Maps YtaplpeoikebedaaGreatDoorW.PrintWords YtaplpeoikebedaaGreatDoorW.PrintLast YtaplpeoikebedaaGreatDoorW.PrintMore
open See Mem Page PageB PageR PageL Disk DiskN DiskW RecD Rec Dirty Wal WalF SysD SysM PoolG Pager StoreD PageM StoreF StoreG StoreI StoreJ PageO HeldT TransT LockT LockU SpaceT WaitT FwdM FwdP FwdC FwdF FwdT FwdB FwdS FwdV
attribute [local go_sem] max2_imax min2_imin max_two min_two
theorem get1_calls (a:Nat→Addr)(M:Nat→Prop)(sp lp pp dp qp mp:Nat)(blocks frames:Int)(F:FS)(n key hint:Int)(N m:Nat)(ch:Int→List Int)(kp:Int→Int)(w:World)(h:FwM M w sp lp pp dp qp mp blocks frames F)(hok:FOk N m ch kp F)(hk:whoL F.ks n key 1=[])(hs:SentsAll w a)(hO:OutAll M a)(h0:0≤n)(h1:n<F.sess)(h2:F.sess≤1000)
    (hx:thas F.ts (F.of n)=true) (hk0:0≤key) (hk1:key<1048576) (hl:F.ks.length≤80000) (hm:m≤30000) (hh0 : -9223372036854775808≤hint) (hh1:hint≤9223372036854775807) :
    Calls Tryz.prog 27 #[.pointer (some ⟨sp,0,none⟩),.int .i64 n,.int .i64 key,.int .i64 hint] w fun e w'=>e = .returned (.tuple #[.int .i64 (fromOf (cur F.S (placeOf key F.P)).2 key),.bool (has (cur F.S (placeOf key F.P)).2 key),.nilIface])∧FwPost M sp lp pp dp qp mp blocks frames (takesF F n key 1 hint) w w':=by
  have HT:=Aside0.mk (takes1_calls a M sp lp pp dp qp mp blocks frames F n key hint N m ch kp w h hok hk hs hO h0 h1 h2 hx hk0 hk1 hl hm hh0 hh1)
  have HRISE:=Aside0.mk (show Rising (cur F.S (placeOf key F.P)).2 from by
    have hp2:=placeOf_in key hok.g.pg.pages
    exact PageV.rise (hok.g.pg.curV hp2.1 hp2.2))
  obtain⟨x,hxx⟩ : ∃x,tget F.ts (F.of n)=x:=⟨_,rfl⟩
  obtain⟨l0,hl0⟩ : ∃l0,(cur F.S (placeOf key F.P)).1=l0:=⟨_,rfl⟩
  obtain⟨es,hes⟩ : ∃es,(cur F.S (placeOf key F.P)).2=es:=⟨_,rfl⟩
  unfold TakesPost1 at HT
  rw[hes] at HRISE ⊢
  rw[hxx,hl0,hes] at HT
  obtain⟨xi,xs,xl,xn⟩:=x
  simp only[txV] at HT
  clear h hok hk hs hO hl hm hx hxx h0 h1 h2 hh0 hh1 hl0 hes
  go_enter Tryz.func27,Tryz.ntmps27
  go_wp2_with fail
  refine HT.out.mono ?_
  rintro e w1 ⟨sl,rfl,hp,hpost⟩
  obtain⟨A,c,rfl,_⟩:=ow_slice hp.1
  obtain⟨el,hel⟩ : ∃el,es.length=el:=⟨_,rfl⟩
  have HEL:=Aside0.mk hel
  rw[hel] at hp ⊢
  have HP1:=Aside0.mk hp
  have HP:=Aside0.mk hpost
  clear hp hpost hel
  obtain⟨W,hW⟩ : ∃W,(w1.alloc (.cells #[.int .i64 xi,.int .i64 xs,.int .i64 xl,.int .i64 xn] 102)).alloc (.cells #[.int .i64 l0,.slice A el c] 74)=W:=⟨_,rfl⟩
  have HBW:=Aside0.mk (show Below w1.heap.size w1 W from by rw[←hW];repeat (first | exact Below.refl _ _ | apply below_alloc))
  obtain⟨bg,hbg⟩ : ∃bg,w1.heap.size+1=bg:=⟨_,rfl⟩
  have HGB:=Aside0.mk (show W.heap[bg]? = some (.cells #[.int .i64 l0,.slice A el c] 74 (0,0)) from by
    rw[←hW,←hbg]
    exact ChangeT.alloc_at _ _ (show (w1.alloc _).heap.size=w1.heap.size+1 from by show (w1.heap.push _).size=_;rw[Array.size_push]))
  have HWN:=Aside0.mk (And.intro hW hbg)
  clear hW hbg
  go_upto_region 2 with fail
  rw[HWN.out.1,HWN.out.2]
  obtain⟨_,_,g0,g1⟩:=FwdT.pg_cells HGB.out
  have hbgl:=heap_lt HGB.out
  have HPW:=Aside0.mk (HP1.out.below HBW.out)
  have HEG:=Aside0.mk (eget_calls l0 (.slice A el c) es key W HPW.out HRISE.out)
  go_wp2_with fail
  refine HEG.out.mono ?_
  rintro e w2 ⟨rfl,hb2⟩
  have HPF:=Aside0.mk (FwPost.step HP.out (below_step HBW.out hb2))
  clear hb2 g0 g1 hbgl
  obtain⟨had,hhad⟩ : ∃b,has es key=b:=⟨_,rfl⟩
  obtain⟨old,hold⟩ : ∃o,fromOf es key=o:=⟨_,rfl⟩
  have HHO:=Aside0.mk (And.intro hhad hold)
  rw[hhad,hold]
  clear hhad hold
  go_wp2_with fail
  exact bodyPost_ret (v:=.tuple #[.int .i64 old,.bool had,.nilIface]) (by simp[results,Tryz.results27,go_sem]) rfl ⟨by rw[HHO.out.1,HHO.out.2],HPF.out⟩
end Go.Proofs.YtaplpeoikebedaaGreatDoor.FwdW
namespace Go.Proofs.YtaplpeoikebedaaGreatDoor.FwdX
open Go.RowKit Go.Maps YtaplpeoikebedaaGreatDoorW.PrintWords YtaplpeoikebedaaGreatDoorW.PrintLast YtaplpeoikebedaaGreatDoorW.PrintMore
open See Mem Page PageB PageR PageL Disk DiskN DiskW RecD Rec Dirty Wal WalF SysD SysM PoolG Pager StoreD PageM StoreF StoreG StoreI StoreJ PageO HeldT TransT LockT LockU SpaceT WaitT FwdM FwdP FwdC FwdF FwdT FwdB FwdS FwdU StoreW
attribute [local go_sem] max2_imax min2_imin max_two min_two
end Go.Proofs.YtaplpeoikebedaaGreatDoor.FwdX
namespace Go.Proofs.YtaplpeoikebedaaGreatDoor.BackE
open Go.RowKit Go.Maps YtaplpeoikebedaaGreatDoorW.PrintWords YtaplpeoikebedaaGreatDoorW.PrintLast YtaplpeoikebedaaGreatDoorW.PrintMore
open See Mem Clone Go.Proofs.YtaplpeoikebedaaGreatDoor.Cell Page PageB PageR PageL Disk Dirty Pool2 RecD Wal PoolG SysD SysM StoreD StoreF StoreI StoreJ StoreW TransT LockT LockU SpaceT WaitT FwdM FwdP FwdC FwdT FwdU FwdW FwdX Pager BackM
attribute [local go_sem] max2_imax min2_imin max_two min_two
theorem eql_nil (x:Addr)(w:World):(binOp .eql 37 .nilIface (.iface 333 (.pointer (some x)))).run Tryz.prog w = .ok (.bool false) w:=by kernel_rfl
theorem ends_nil (a:Nat→Addr)(p:Value)(n hint v:Int)(is:Bool)(w:World)(hs:SentsAll w a) :
    Calls Tryz.prog 87 #[p,.int .i64 n,.int .i64 hint,.int .i64 v,.bool is,.nilIface] w fun e w'=>e = .returned (.tuple #[.int .i64 v,.bool is,.nilIface])∧Below w.heap.size w w':=by
  have hg11:w.cell? ⟨12,0,none⟩=some (.iface 333 (.pointer (some (a 11)))):=hs.cell 11 (by decide)
  have hg8:w.cell? ⟨2,0,none⟩=some (.iface 333 (.pointer (some (a 8)))):=hs.cell 8 (by decide)
  have he11:=eql_nil (a 11) w
  have he8:=eql_nil (a 8) w
  clear hs
  go_enter Tryz.func87,Tryz.ntmps87
  go_wp2_with fail
  exact bodyPost_ret (v:=.tuple #[.int .i64 v,.bool is,.nilIface]) (by simp[results,Tryz.results87,go_sem]) rfl ⟨rfl,Below.refl _ _⟩
theorem bput_calls (a:Nat→Addr)(M:Nat→Prop)(bp bm sp lp pp dp qp mp:Nat)(blocks frames:Int)(B:BSt)(n key v hint:Int)(N m:Nat)(ch:Int→List Int)(kp:Int→Int)(own:Int→Int)(F':FS)(old:Int)(had:Bool)(w:World)(h:BkM M w bp bm sp lp pp dp qp mp blocks frames B)(hR:putR B.F n key v hint=(F',old,had,none))(hok:FOk N m ch kp B.F)(hk:KOk own B.F.ks)(he:own key=n)(hs:SentsAll w a)(hO:OutAll M a)(h0:0≤n)(h1:n<B.F.sess)(h2:B.F.sess≤1000)
    (hx:thas B.F.ts (B.F.of n)=true) (hk0:0≤key) (hk1:key<1048576) (hl:B.F.ks.length≤80000) (hm:m≤30000) (hh0 : -9223372036854775808≤hint) (hh1:hint≤9223372036854775807) (hv:is64 v) :
    Calls Tryz.prog 33 #[.pointer (some ⟨bp,0,none⟩),.int .i64 n,.int .i64 key,.int .i64 v,.int .i64 hint] w fun e w'=>e = .returned (.tuple #[.int .i64 old,.bool had,.nilIface])∧BkPost M bp bm sp lp pp dp qp mp blocks frames { B with F:=F' } w w':=by
  obtain⟨R,sl,h⟩:=h
  have HP:=Aside0.mk (put_calls a R sp lp pp dp qp mp blocks frames B.F n key v hint N m ch kp own w h.f hok hk he hs (OutAll.sub (M':=R) hO fun k hk=>(h.r k hk).1) h0 h1 h2 hx hk0 hk1 hl hm hh0 hh1 hv)
  unfold PutPost at HP
  rw[hR] at HP
  have HH:=Aside0.mk h
  have HS:=Aside0.mk hs
  have HO:=Aside0.mk hO
  obtain⟨c0,c1⟩:=h.cells
  have hbl:=heap_lt h.box
  clear h hR hok hk he hs hO hx hl hm hv h0 h1 h2
  go_enter Tryz.func33,Tryz.ntmps33
  go_wp2_with fail
  refine HP.out.mono ?_
  rintro e w1 ⟨rfl,hp⟩
  have HP1:=Aside0.mk (HH.out.fw hp)
  have HS1:=Aside0.mk (SentsAll.kp HS.out HP1.out.2 HO.out)
  clear hp c0 c1 hbl
  rw[show errv a none = .nilIface from rfl]
  go_wp2_with fail
  refine (ends_nil a _ n hint old had w1 HS1.out).mono ?_
  rintro e w2 ⟨rfl,hb⟩
  have HP2:=Aside0.mk (BkPost.step HP1.out hb)
  clear hb
  go_wp2_with fail
  exact bodyPost_ret (v:=.tuple #[.int .i64 old,.bool had,.nilIface]) (by simp[results,Tryz.results33,go_sem]) rfl ⟨rfl,HP2.out⟩
theorem bget_calls (a:Nat→Addr)(M:Nat→Prop)(bp bm sp lp pp dp qp mp:Nat)(blocks frames:Int)(B:BSt)(n key hint:Int)(N m:Nat)(ch:Int→List Int)(kp:Int→Int)(w:World)(h:BkM M w bp bm sp lp pp dp qp mp blocks frames B)(hok:FOk N m ch kp B.F)(hk:whoL B.F.ks n key 1=[])(hs:SentsAll w a)(hO:OutAll M a)(h0:0≤n)(h1:n<B.F.sess)(h2:B.F.sess≤1000)
    (hx:thas B.F.ts (B.F.of n)=true) (hk0:0≤key) (hk1:key<1048576) (hl:B.F.ks.length≤80000) (hm:m≤30000) (hh0 : -9223372036854775808≤hint) (hh1:hint≤9223372036854775807) :
    Calls Tryz.prog 36 #[.pointer (some ⟨bp,0,none⟩),.int .i64 n,.int .i64 key,.int .i64 hint] w fun e w'=>e = .returned (.tuple #[.int .i64 (fromOf (cur B.F.S (placeOf key B.F.P)).2 key),.bool (has (cur B.F.S (placeOf key B.F.P)).2 key),.nilIface])∧BkPost M bp bm sp lp pp dp qp mp blocks frames { B with F:=takesF B.F n key 1 hint } w w':=by
  obtain⟨R,sl,h⟩:=h
  have HP:=Aside0.mk (get1_calls a R sp lp pp dp qp mp blocks frames B.F n key hint N m ch kp w h.f hok hk hs (OutAll.sub (M':=R) hO fun k hk=>(h.r k hk).1) h0 h1 h2 hx hk0 hk1 hl hm hh0 hh1)
  obtain⟨old,hold⟩ : ∃o,fromOf (cur B.F.S (placeOf key B.F.P)).2 key=o:=⟨_,rfl⟩
  obtain⟨had,hhad⟩ : ∃b,has (cur B.F.S (placeOf key B.F.P)).2 key=b:=⟨_,rfl⟩
  rw[hold,hhad] at HP ⊢
  have HH:=Aside0.mk h
  have HS:=Aside0.mk hs
  have HO:=Aside0.mk hO
  obtain⟨c0,c1⟩:=h.cells
  have hbl:=heap_lt h.box
  clear h hok hk hs hO hx hl hm h0 h1 h2 hold hhad
  go_enter Tryz.func36,Tryz.ntmps36
  go_wp2_with fail
  refine HP.out.mono ?_
  rintro e w1 ⟨rfl,hp⟩
  have HP1:=Aside0.mk (HH.out.fw hp)
  have HS1:=Aside0.mk (SentsAll.kp HS.out HP1.out.2 HO.out)
  clear hp c0 c1 hbl
  go_wp2_with fail
  refine (ends_nil a _ n hint old had w1 HS1.out).mono ?_
  rintro e w2 ⟨rfl,hb⟩
  have HP2:=Aside0.mk (BkPost.step HP1.out hb)
  clear hb
  go_wp2_with fail
  exact bodyPost_ret (v:=.tuple #[.int .i64 old,.bool had,.nilIface]) (by simp[results,Tryz.results36,go_sem]) rfl ⟨rfl,HP2.out⟩
end Go.Proofs.YtaplpeoikebedaaGreatDoor.BackE
namespace Go.Proofs.YtaplpeoikebedaaGreatDoor.First18
open Go.RowKit Go.Maps YtaplpeoikebedaaGreatDoorW.PrintWords YtaplpeoikebedaaGreatDoorW.PrintLast YtaplpeoikebedaaGreatDoorW.PrintMore
open See Mem Page Disk DiskN RecD Dirty Pool2 Pool3 Wal Fresh SysD SysM StoreD StoreF StoreI StoreJ RoomD TransT LockT LockU SpaceT WaitT FwdM FwdP FwdC FwdE FwdT FwdN FwdO FwdB FwdG First17 RefN BackA BackM BackW BackV BackU BackB BackN
attribute [local go_sem] max2_imax min2_imin max_two min_two
end Go.Proofs.YtaplpeoikebedaaGreatDoor.First18
namespace Go.Proofs.YtaplpeoikebedaaGreatDoor.ValM
open Go.RowKit Go.Maps YtaplpeoikebedaaGreatDoorW.PrintWords YtaplpeoikebedaaGreatDoorW.PrintLast YtaplpeoikebedaaGreatDoorW.PrintMore
open See Mem Page Disk Pool2 SysD SysM StoreD StoreF FwdM FwdP FwdT BackM
def arrB (hs:Int→Bool):Array Value:=((List.range 30).map fun j:Nat=>Value.bool (hs j)).toArray
def arrV (vl:Int→Int):Array Value:=((List.range 30).map fun j:Nat=>Value.int .i64 (vl j)).toArray
theorem arrB_at (hs:Int→Bool){k:Int}(h0:0≤k)(h1:k<30):(arrB hs)[k.toNat]? = some (.bool (hs k)):=by
  unfold arrB
  simp only[List.getElem?_toArray,List.getElem?_map]
  rw[List.getElem?_range (by omega)]
  simp only[Option.map_some]
  rw[Int.toNat_of_nonneg h0]
theorem arrV_at (vl:Int→Int){k:Int}(h0:0≤k)(h1:k<30):(arrV vl)[k.toNat]? = some (.int .i64 (vl k)):=by
  unfold arrV
  simp only[List.getElem?_toArray,List.getElem?_map]
  rw[List.getElem?_range (by omega)]
  simp only[Option.map_some]
  rw[Int.toNat_of_nonneg h0]
theorem cell_at {w:World}{b:Nat}{cs:Array Value}{t:Nat}(h:w.heap[b]? = some (.cells cs t (0,0)))(i:Nat):w.cell? ⟨b,i,none⟩=cs[i]? := by simp[World.cell?,h]
theorem froz_at {w:World}{b:Nat}{cs:Array Value}{t:Nat}(h:w.heap[b]? = some (.cells cs t (0,0)))(i:Nat):w.frozen? ⟨b,i,none⟩=false:=by simp[World.frozen?,h]
def Mx (n:Nat)(l:List Nat):Nat→Prop:=fun k=>n≤k∧k∉l
theorem mx_up {n:Nat}{l:List Nat}{w1 w2:World}{bp bm sp lp pp dp qp mp:Nat}{blocks frames:Int}{B:BSt}(h:BkPost (Mx n l) bp bm sp lp pp dp qp mp blocks frames B w1 w2)(hn:n≤w1.heap.size)(hl : ∀k∈l,k<w1.heap.size):BkM (Mx n l) w2 bp bm sp lp pp dp qp mp blocks frames B∧Below n w1 w2∧∀k∈l,w2.heap[k]? = w1.heap[k]? := by
  refine⟨BkM.mono h.1 fun k hk => ?_,h.2.below (fun k hk=>hk.1) hn,fun k hk=>h.2.block k (hl k hk) fun hm=>hm.2 hk⟩
  rcases hk with hk | ⟨a,b⟩
  · exact hk
  · exact⟨by omega,fun hx=>by have:=hl k hx;omega⟩
structure VaM (n b1 b2 b3 b4:Nat) (bp bm sp lp pp dp qp mp:Nat) (blocks frames:Int) (hs hs0:Int→Bool) (vl vl0:Int→Int) (w0:World) (B:BSt) (w:World):Prop where
  bk:BkM (Mx n [b1,b2,b3,b4]) w bp bm sp lp pp dp qp mp blocks frames B
  below:Below n w0 w
  size:n≤w.heap.size
  ge:n≤b1∧n≤b2∧n≤b3∧n≤b4
  ne:b1<b2∧b2<b3∧b3<b4
  a1:w.heap[b1]? = some (.cells (arrB hs) 43 (0,0))
  a2:w.heap[b2]? = some (.cells (arrB hs0) 43 (0,0))
  a3:w.heap[b3]? = some (.cells (arrV vl) 44 (0,0))
  a4:w.heap[b4]? = some (.cells (arrV vl0) 44 (0,0))
section
variable {n b1 b2 b3 b4:Nat}{bp bm sp lp pp dp qp mp:Nat}{blocks frames:Int}{hs hs0:Int→Bool}{vl vl0:Int→Int}{w0 w w':World}{B B':BSt}
theorem VaM.up (h:VaM n b1 b2 b3 b4 bp bm sp lp pp dp qp mp blocks frames hs hs0 vl vl0 w0 B w)(hp:BkPost (Mx n [b1,b2,b3,b4]) bp bm sp lp pp dp qp mp blocks frames B' w w'):VaM n b1 b2 b3 b4 bp bm sp lp pp dp qp mp blocks frames hs hs0 vl vl0 w0 B' w':=by
  obtain⟨x,y,z⟩:=mx_up hp h.size fun k hk=>by
    simp only[List.mem_cons,List.not_mem_nil,or_false] at hk
    rcases hk with rfl | rfl | rfl | rfl
    · exact heap_lt h.a1
    · exact heap_lt h.a2
    · exact heap_lt h.a3
    · exact heap_lt h.a4
  exact⟨x,h.below.trans y,Nat.le_trans h.size y.size,h.ge,h.ne,(z _ (by simp)).trans h.a1,(z _ (by simp)).trans h.a2,(z _ (by simp)).trans h.a3,(z _ (by simp)).trans h.a4⟩
theorem VaM.low (h:VaM n b1 b2 b3 b4 bp bm sp lp pp dp qp mp blocks frames hs hs0 vl vl0 w0 B w)(hb:Below w.heap.size w w'):VaM n b1 b2 b3 b4 bp bm sp lp pp dp qp mp blocks frames hs hs0 vl vl0 w0 B w':=
  ⟨h.bk.below hb,h.below.trans (hb.mono h.size),Nat.le_trans h.size hb.size,h.ge,h.ne,(hb.block _ (heap_lt h.a1)).trans h.a1,(hb.block _ (heap_lt h.a2)).trans h.a2,(hb.block _ (heap_lt h.a3)).trans h.a3,(hb.block _ (heap_lt h.a4)).trans h.a4⟩
theorem VaM.box (h:VaM n b1 b2 b3 b4 bp bm sp lp pp dp qp mp blocks frames hs hs0 vl vl0 w0 B w):w.cell? ⟨bp,0,none⟩=some (.pointer (some ⟨sp,0,none⟩))∧bp<w.heap.size:=by
  obtain⟨R,sl,hi⟩:=h.bk
  exact⟨hi.cells.1,heap_lt hi.box⟩
theorem VaM.c1 (h:VaM n b1 b2 b3 b4 bp bm sp lp pp dp qp mp blocks frames hs hs0 vl vl0 w0 B w){k:Int}(h0:0≤k)(h1:k<30):w.cell? ⟨b1,k.toNat,none⟩=some (.bool (hs k))∧w.frozen? ⟨b1,k.toNat,none⟩=false∧b1<w.heap.size:=⟨(cell_at h.a1 _).trans (arrB_at hs h0 h1),froz_at h.a1 _,heap_lt h.a1⟩
theorem VaM.c2 (h:VaM n b1 b2 b3 b4 bp bm sp lp pp dp qp mp blocks frames hs hs0 vl vl0 w0 B w){k:Int}(h0:0≤k)(h1:k<30):w.cell? ⟨b2,k.toNat,none⟩=some (.bool (hs0 k))∧b2<w.heap.size:=⟨(cell_at h.a2 _).trans (arrB_at hs0 h0 h1),heap_lt h.a2⟩
theorem VaM.c3 (h:VaM n b1 b2 b3 b4 bp bm sp lp pp dp qp mp blocks frames hs hs0 vl vl0 w0 B w){k:Int}(h0:0≤k)(h1:k<30):w.cell? ⟨b3,k.toNat,none⟩=some (.int .i64 (vl k))∧w.frozen? ⟨b3,k.toNat,none⟩=false∧b3<w.heap.size:=⟨(cell_at h.a3 _).trans (arrV_at vl h0 h1),froz_at h.a3 _,heap_lt h.a3⟩
theorem VaM.c4 (h:VaM n b1 b2 b3 b4 bp bm sp lp pp dp qp mp blocks frames hs hs0 vl vl0 w0 B w){k:Int}(h0:0≤k)(h1:k<30):w.cell? ⟨b4,k.toNat,none⟩=some (.int .i64 (vl0 k))∧b4<w.heap.size:=⟨(cell_at h.a4 _).trans (arrV_at vl0 h0 h1),heap_lt h.a4⟩
end
theorem alloc_len (w:World)(o:Obj):(w.alloc o).heap.size=w.heap.size+1:=by
  show (w.heap.push o).size=_
  rw[Array.size_push]
theorem alloc_after {w W:World}{o:Obj}{k:Nat}(hk:w.heap.size=k)(hb:Below (w.alloc o).heap.size (w.alloc o) W):W.heap[k]? = some o:=by
  subst hk
  refine (hb.block _ (by rw[alloc_len];omega)).trans ?_
  show (w.heap.push o)[w.heap.size]? = some o
  exact Array.getElem?_push_size
end Go.Proofs.YtaplpeoikebedaaGreatDoor.ValM
namespace Go.Proofs.YtaplpeoikebedaaGreatDoor.CkptK
open Go.RowKit Go.Maps YtaplpeoikebedaaGreatDoorW.PrintWords YtaplpeoikebedaaGreatDoorW.PrintLast YtaplpeoikebedaaGreatDoorW.PrintMore
open See Mem Page Disk DiskW DiskS RecD Wal Pool2 SysD SysM PoolF PoolE PoolG PoolA StoreD StoreF StoreI StoreJ SpaceT FwdM FwdP BackM BackU MasC MasT CkptD CkptM
attribute [local go_sem] max2_imax min2_imin max_two min_two
def keepD (d:Dsk)(m:Mst):Dsk:=syncD (writeD d 0 (mstBytes m))
theorem keep_good {d:Dsk}{n:Nat}{m:Mst}(h:GoodD.Good d n)(hn:0<n):GoodD.Good (keepD d m) n∧(∀j,readV (keepD d m) j=if j=0 then mstBytes m else readV d j)∧∀s∈(keepD d m).l,s.loose=[]:=by
  obtain⟨x1,x2,x3⟩:=h.write (i:=0) (b:=mstBytes m) (Int.le_refl 0) (by omega) (mst_sec m).1
  obtain⟨y1,y2,y3⟩:=x2.sync
  refine⟨y2,fun j=>(y3 j).trans (x3 j),fun s hs => ?_⟩
  have hd:(syncD (writeD d 0 (mstBytes m))).l=(writeD d 0 (mstBytes m)).l.map fastS:=by
    have h1:=x2.on
    have h2:=x2.fuse
    unfold syncD
    rw[if_neg (by rw[h1];decide),if_pos (by unfold spendB;rw[h2];decide)]
  have hs':s∈(syncD (writeD d 0 (mstBytes m))).l:=hs
  rw[hd] at hs'
  obtain⟨x,_,rfl⟩:=List.mem_map.1 hs'
  rfl
theorem keep_calls (a:Nat→Addr)(M:Nat→Prop)(dp:Nat)(d:Dsk)(m:Mst)(n:Nat)(w:World)(hs:Sents w a)(hO:Out M a)(hd:DskM M w dp d)(hg:GoodD.Good d n)(hn:0<n)(hm:MOk m)(hfew : ∀s∈d.l,s.loose.length≤90000) :
    Calls Tryz.prog 108 #[.pointer (some ⟨dp,0,none⟩),mstV m] w fun e w'=>e = .returned .nilIface∧DskM (Gr M w w') w' dp (keepD d m)∧Frm dTurn M w w':=by
  obtain⟨x1,x2,x3⟩:=hg.write (i:=0) (b:=mstBytes m) (Int.le_refl 0) (by omega) (mst_sec m).1
  obtain⟨y1,y2,y3⟩:=x2.sync
  have HS:=Aside0.mk hs
  have HO:=Aside0.mk hO
  have HBY:=Aside0.mk (mbytes_calls m hm)
  have HWR:=Aside0.mk (fun (w1:World) (v:Value) (h1:Below w.heap.size w w1) (hv:BS w1 v (mstBytes m))=>write_disk a M dp d 0 v (mstBytes m) w1 (HS.out.below h1) HO.out (hd.below h1) hv (mst_sec m).2 (by unfold FuseOk;rw[hg.fuse];omega) (fun s hs=>Nat.le_trans (hfew s hs) (by omega)))
  have HSY:=Aside0.mk (fun (w1 w2:World) (h1:Below w.heap.size w w1) (hp:WritePost a M dp d 0 (mstBytes m) w1 (.returned .nilIface) w2)=>sync_disk a (Gr M w1 w2) dp (writeD d 0 (mstBytes m)) w2 (sents_frm (HS.out.below h1) hp.2.2 HO.out) (HO.out.gr (HS.out.below h1)) hp.2.1 (by unfold FuseOk;rw[x2.fuse];omega) (fun s hs=>by
    have hl:(writeD d 0 (mstBytes m)).l=d.l.modify 0 fun s=>⟨s.fast,s.loose++[mstBytes m]⟩:=by
      unfold writeD
      rw[if_neg (by rw[hg.on];decide),if_pos (hg.inD (Int.le_refl 0) (by omega)),if_pos (mst_sec m).1,spendD_l]
      rfl
    rw[hl] at hs
    obtain⟨j,hj⟩:=List.mem_iff_getElem?.1 hs
    rw[List.getElem?_modify] at hj
    obtain⟨y,hy,e⟩:=Option.map_eq_some_iff.1 hj
    have:=hfew y (List.mem_of_getElem? hy)
    rw[←e]
    split
    · simp;omega
    · omega))
  have HWE:=Aside0.mk x1
  have HSE:=Aside0.mk y1
  have HPO:=Aside0.mk (fun (w1 w2 w3:World) (h1:Below w.heap.size w w1) (hp:WritePost a M dp d 0 (mstBytes m) w1 (.returned .nilIface) w2) (hq:SyncPost a (Gr M w1 w2) dp (writeD d 0 (mstBytes m)) w2 (.returned .nilIface) w3)=>(show DskM (Gr M w w3) w3 dp (keepD d m)∧Frm dTurn M w w3 from by
    have hz1:=h1.size
    have hz2:=hp.2.2.size
    have hz3:=hq.2.2.size
    refine⟨hq.2.1.mono fun k hk => ?_,(Frm.of_below h1).trans (hp.2.2.transG hq.2.2)⟩
    rcases hk with hk | ⟨x,y⟩
    · exact .inl hk
    · exact .inr ⟨by omega,by omega⟩))
  clear hs hO hd hg hn hm hfew x1 x2 x3 y1 y2 y3
  obtain⟨mm,hmm⟩ : ∃mm,mm=m:=⟨_,rfl⟩
  rw[←hmm] at HBY HWR HSY HWE HSE HPO
  have HMM:=Aside0.mk hmm
  clear hmm
  obtain⟨ep,ba,re,ck,pg,bl,fr⟩:=m
  have HBY2:=Aside0.mk (show ∀w,Calls Tryz.prog 105 #[.agg #[.int .i64 ep,.int .i64 ba,.int .i64 re,.int .i64 ck,.int .i64 pg,.int .i64 bl,.int .i64 fr]] w fun e w' => ∃v,e = .returned (.tuple #[v,.nilIface])∧BS w' v (mstBytes mm)∧Below w.heap.size w w' from fun w=>by
    have:=HBY.out w
    rw[HMM.out] at this ⊢
    exact this)
  clear HBY
  go_enter Tryz.func108,Tryz.ntmps108
  go_wp2_with fail
  refine (HBY2.out _).mono ?_
  rintro e w1 ⟨v,rfl,hv,hb⟩
  have HV:=Aside0.mk hv
  have HB:=Aside0.mk (below_step (below_alloc (Below.refl w.heap.size w) _) hb)
  obtain⟨A,c,rfl,_,_⟩:=Rd.form hv
  clear hv hb
  go_wp2_with fail
  refine (HWR.out w1 _ HB.out HV.out).mono ?_
  rintro e w2 hp
  obtain rfl:e = .returned .nilIface:=by rw[hp.1,HWE.out];rfl
  have HP2:=Aside0.mk hp
  clear hp
  go_wp2_with fail
  refine (HSY.out w1 w2 HB.out HP2.out).mono ?_
  rintro e w3 hp
  obtain rfl:e = .returned .nilIface:=by rw[hp.1,HSE.out];rfl
  have HP3:=Aside0.mk (HPO.out w1 w2 w3 HB.out HP2.out hp)
  clear hp
  go_wp2_with fail
  go_ret
  exact⟨rfl,by rw[←HMM.out];exact HP3.out⟩
theorem cknew_calls (n0 bp dp:Nat)(m:Mst)(w:World) :
    Calls Tryz.prog 94 #[.pointer (some ⟨bp,0,none⟩),.pointer (some ⟨dp,0,none⟩),mstV m] w fun e w' => ∃cp,e = .returned (.pointer (some ⟨cp,0,none⟩))∧w.heap.size≤cp∧w'.heap[cp]? = some (.cells (ckCells bp dp m) 86 (0,0))∧Below w.heap.size w w':=by
  obtain⟨ep,ba,re,ck,pg,bl,fr⟩:=m
  go_enter Tryz.func94,Tryz.ntmps94
  go_wp2_with fail
  exact bodyPost_ret (v:=.pointer (some ⟨w.heap.size+1,0,none⟩)) (by simp[results,Tryz.results94,go_sem]) rfl ⟨w.heap.size+1,rfl,by omega,ValM.alloc_after (ValM.alloc_len w _) (Below.refl _ _),below_alloc (below_alloc (Below.refl _ _) _) _⟩
section
variable (a:Nat→Addr)(M:Nat→Prop)(cp bp bm sp lp pp dp qp mp:Nat)(blocks frames:Int)(B:BSt)(m:Mst)(N mm:Nat)(f:Int→Option Int)(P:Int)(w:World)
end
end Go.Proofs.YtaplpeoikebedaaGreatDoor.CkptK
