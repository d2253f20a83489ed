/- Joined texts: CkptM, FwdO, FwdG, First17, RefN, BackN. No condition but what each says. -/
import Derived.Test.YtaplpeoikebedaaGreatDoorY33
import Derived.Test.YtaplpeoikebedaaGreatDoorY35
import Derived.Test.YtaplpeoikebedaaGreatDoorY29
import Derived.Deep.DeepCutAuto
import Derived.Deep.RegionLaw
import Derived.BigQuiet
import Derived.Test.YtaplpeoikebedaaGreatDoorY30
import Derived.Test.YtaplpeoikebedaaGreatDoorY6
set_option maxHeartbeats 8000000
set_option maxRecDepth 100000
set_option linter.unusedVariables false
set_option linter.unusedSimpArgs false
namespace Go.Proofs.YtaplpeoikebedaaGreatDoor.CkptM
open Go.RowKit Go.Maps YtaplpeoikebedaaGreatDoorW.PrintWords YtaplpeoikebedaaGreatDoorW.PrintLast YtaplpeoikebedaaGreatDoorW.PrintMore
open See Mem Page Disk DiskW RecD Wal Pool2 SysD SysM PoolF PoolE PoolG PoolA StoreD StoreF StoreI StoreJ SpaceT FwdM FwdP BackM BackU MasC MasT CkptD
attribute [local go_sem] max2_imax min2_imin max_two min_two
def ckCells (bp dp:Nat)(m:Mst):Array Value:=#[.pointer (some ⟨bp,0,none⟩),.pointer (some ⟨dp,0,none⟩),.int .i64 m.epoch,.int .i64 m.base,.int .i64 m.reset,.int .i64 m.ckpt,.int .i64 m.pages,.int .i64 m.blocks,.int .i64 m.frames]
structure CkIn (M:Nat→Prop) (w:World) (cp bp bm sp lp pp dp qp mp:Nat) (blocks frames:Int) (B:BSt) (m:Mst) (R:Nat→Prop):Prop where
  box:w.heap[cp]? = some (.cells (ckCells bp dp m) 86 (0,0))
  b:BkM R w bp bm sp lp pp dp qp mp blocks frames B
  r : ∀k,R k→M k∧k≠cp
  low:M cp
def CkM (M:Nat→Prop)(w:World)(cp bp bm sp lp pp dp qp mp:Nat)(blocks frames:Int)(B:BSt)(m:Mst):Prop := ∃R,CkIn M w cp bp bm sp lp pp dp qp mp blocks frames B m R
def CkPost (M:Nat→Prop)(cp bp bm sp lp pp dp qp mp:Nat)(blocks frames:Int)(B:BSt)(m:Mst)(w w':World):Prop:=CkM (Gr M w w') w' cp bp bm sp lp pp dp qp mp blocks frames B m∧Kp M w w'
section
variable {M R:Nat→Prop}{cp bp bm sp lp pp dp qp mp:Nat}{blocks frames:Int}{B B':BSt}{m:Mst}{w w1 w2 w':World}
theorem CkIn.cells (h:CkIn M w cp bp bm sp lp pp dp qp mp blocks frames B m R):w.cell? ⟨cp,0,none⟩=some (.pointer (some ⟨bp,0,none⟩))∧w.cell? ⟨cp,1,none⟩=some (.pointer (some ⟨dp,0,none⟩))∧w.cell? ⟨cp,2,none⟩=some (.int .i64 m.epoch)∧w.cell? ⟨cp,3,none⟩=some (.int .i64 m.base)∧w.cell? ⟨cp,4,none⟩=some (.int .i64 m.reset)∧w.cell? ⟨cp,5,none⟩=some (.int .i64 m.ckpt)∧w.cell? ⟨cp,6,none⟩=some (.int .i64 m.pages)∧w.cell? ⟨cp,7,none⟩=some (.int .i64 m.blocks)∧w.cell? ⟨cp,8,none⟩=some (.int .i64 m.frames):=by
  have hb:=h.box
  refine⟨?_,?_,?_,?_,?_,?_,?_,?_,?_⟩<;>simp[World.cell?,hb,ckCells]
theorem CkIn.below (h:CkIn M w cp bp bm sp lp pp dp qp mp blocks frames B m R)(hb:Below w.heap.size w w'):CkIn M w' cp bp bm sp lp pp dp qp mp blocks frames B m R:=
  ⟨(hb.block _ (heap_lt h.box)).trans h.box,h.b.below hb,h.r,h.low⟩
theorem CkM.below (h:CkM M w cp bp bm sp lp pp dp qp mp blocks frames B m)(hb:Below w.heap.size w w'):CkM M w' cp bp bm sp lp pp dp qp mp blocks frames B m:=by
  obtain⟨R,h⟩:=h
  exact⟨R,h.below hb⟩
theorem CkM.mono {M':Nat→Prop}(h:CkM M w cp bp bm sp lp pp dp qp mp blocks frames B m)(hm : ∀k,M k→M' k):CkM M' w cp bp bm sp lp pp dp qp mp blocks frames B m:=by
  obtain⟨R,h⟩:=h
  exact⟨R,h.box,h.b,fun k hk=>⟨hm k (h.r k hk).1,(h.r k hk).2⟩,hm _ h.low⟩
theorem CkIn.bk (h:CkIn M w cp bp bm sp lp pp dp qp mp blocks frames B m R)(hp:BkPost R bp bm sp lp pp dp qp mp blocks frames B' w w'):CkPost M cp bp bm sp lp pp dp qp mp blocks frames B' m w w':=by
  refine⟨⟨Gr R w w',hp.2.at h.box (fun hr=>(h.r cp hr).2 rfl),hp.1,fun k hk => ?_,.inl h.low⟩,hp.2.wide fun k hk=>(h.r k hk).1⟩
  rcases hk with hk | ⟨x,y⟩
  · exact⟨.inl (h.r k hk).1,(h.r k hk).2⟩
  · exact⟨.inr ⟨x,y⟩,by have:=heap_lt h.box;omega⟩
theorem ck_up {n:Nat}(h:CkPost (fun k=>n≤k) cp bp bm sp lp pp dp qp mp blocks frames B m w1 w2)(hn:n≤w1.heap.size):CkM (fun k=>n≤k) w2 cp bp bm sp lp pp dp qp mp blocks frames B m∧Below n w1 w2:=
  ⟨CkM.mono h.1 fun k hk=>by
    rcases hk with hk | ⟨h1,_⟩
    · exact hk
    · exact Nat.le_trans hn h1,h.2.below (fun k hk=>hk) hn⟩
end
section
variable (a:Nat→Addr)(M:Nat→Prop)(cp bp bm sp lp pp dp qp mp:Nat)(blocks frames:Int)(B:BSt)(m:Mst)(N mm:Nat)(f:Int→Option Int)(P:Int)(w:World)
end
theorem master_calls {M:Nat→Prop}{cp bp bm sp lp pp dp qp mp:Nat}{blocks frames:Int}{B:BSt}{m:Mst}{w:World}(h:CkM M w cp bp bm sp lp pp dp qp mp blocks frames B m) :
    Calls Tryz.prog 41 #[.pointer (some ⟨cp,0,none⟩)] w fun e w'=>e = .returned (mstV m)∧Below w.heap.size w w':=by
  obtain⟨R,h⟩:=h
  obtain⟨c0,c1,c2,c3,c4,c5,c6,c7,c8⟩:=h.cells
  have hcl:=heap_lt h.box
  clear h c0 c1
  obtain⟨ep,ba,re,ck,pg,bl,fr⟩:=m
  go_enter Tryz.func41,Tryz.ntmps41
  go_wp2_with fail
  exact bodyPost_ret (v:=mstV ⟨ep,ba,re,ck,pg,bl,fr⟩) (results_cell_row Tryz.results41 _ _ w.heap.size _ _ (0,0) _ rfl (heap_alloc_new w _) Tryz.underlying84 rfl (by kernel_rfl)) rfl ⟨rfl,below_alloc (Below.refl _ _) _⟩
end Go.Proofs.YtaplpeoikebedaaGreatDoor.CkptM
namespace Go.Proofs.YtaplpeoikebedaaGreatDoor.FwdO
open Go.RowKit Go.Maps YtaplpeoikebedaaGreatDoorW.PrintWords YtaplpeoikebedaaGreatDoorW.PrintLast YtaplpeoikebedaaGreatDoorW.PrintMore
open See Mem Page Disk DiskN RecD Wal SysD SysM StoreD StoreF StoreI TransT LockT LockU SpaceT WaitT FwdM FwdP FwdC FwdN
attribute [local go_sem] max2_imax min2_imin max_two min_two
structure NewIn (w:World) (P blocks frames sess room most:Int) (lp pp sp qp mp:Nat) (wx:World):Prop where
  box:wx.heap[sp]? = some (.cells (fwCells P blocks frames sess lp pp (.slice none 0 0) (.slice none 0 0) 0 qp mp) 118 (0,0))
  room:SpM wx qp room 0
  of:OfM wx mp most (fun _=>0)
  b:Below w.heap.size w wx
  s:w.heap.size≤sp∧w.heap.size≤qp∧w.heap.size≤mp
def stO (P blocks frames sess:Int)(lp pp qp mp:Nat):Obj:=.cells (fwCells P blocks frames sess lp pp (.slice none 0 0) (.slice none 0 0) 0 qp mp) 118 (0,0)
def spO (room:Int):Obj:=.cells #[.int .i64 room,.int .i64 0] 193
theorem push_size (w:World)(o:Obj):(w.alloc o).heap.size=w.heap.size+1:=by show (w.heap.push _).size=_;rw[Array.size_push]
section
variable {w wq:World}{P blocks frames sess room most:Int}{lp pp:Nat}
theorem newA (hb:Below w.heap.size w wq)(hm:0≤most):NewIn w P blocks frames sess room most lp pp (wq.heap.size+1+1) (wq.heap.size+1) wq.heap.size (((wq.alloc (.map #[] 0)).alloc (spO room)).alloc (stO P blocks frames sess lp pp (wq.heap.size+1) wq.heap.size)):=by
  have s1:=push_size wq (.map #[] 0)
  have s2:=push_size (wq.alloc (.map #[] 0)) (spO room)
  have hs:=hb.size
  refine⟨?_,?_,?_,below_alloc (below_alloc (below_alloc hb _) _) _,by omega,by omega,by omega⟩
  · have:=heap_alloc_new ((wq.alloc (.map #[] 0)).alloc (spO room)) (stO P blocks frames sess lp pp (wq.heap.size+1) wq.heap.size)
    rw[s2,s1] at this
    exact this
  · have:=heap_alloc_new (wq.alloc (.map #[] 0)) (spO room)
    rw[s1] at this
    exact (Below.heap_alloc _ _ _ (by omega)).trans this
  · exact ((ofm_made wq most hm).below (below_alloc (Below.refl _ _) _)).below (below_alloc (Below.refl _ _) _)
theorem newC (hb:Below w.heap.size w wq)(hm:0≤most):NewIn w P blocks frames sess room most lp pp (wq.heap.size+1+1) wq.heap.size (wq.heap.size+1) (((wq.alloc (spO room)).alloc (.map #[] 0)).alloc (stO P blocks frames sess lp pp wq.heap.size (wq.heap.size+1))):=by
  have s1:=push_size wq (spO room)
  have s2:=push_size (wq.alloc (spO room)) (.map #[] 0)
  have hs:=hb.size
  refine⟨?_,?_,?_,below_alloc (below_alloc (below_alloc hb _) _) _,by omega,by omega,by omega⟩
  · have:=heap_alloc_new ((wq.alloc (spO room)).alloc (.map #[] 0)) (stO P blocks frames sess lp pp wq.heap.size (wq.heap.size+1))
    rw[s2,s1] at this
    exact this
  · have h1:SpM (wq.alloc (spO room)) wq.heap.size room 0:=heap_alloc_new wq (spO room)
    exact (h1.below (below_alloc (Below.refl _ _) _)).below (below_alloc (Below.refl _ _) _)
  · have:=ofm_made (wq.alloc (spO room)) most hm
    rw[s1] at this
    exact this.below (below_alloc (Below.refl _ _) _)
theorem newB {V:World}(hO:OfM V (w.heap.size+1) most (fun _=>0))(hV:Below w.heap.size w V)(hb:Below V.heap.size V wq):NewIn w P blocks frames sess room most lp pp (wq.heap.size+1) wq.heap.size (w.heap.size+1) ((wq.alloc (spO room)).alloc (stO P blocks frames sess lp pp wq.heap.size (w.heap.size+1))):=by
  have s1:=push_size wq (spO room)
  have hs:=hb.size
  have hv:=hV.size
  have hbw:Below w.heap.size w wq:=below_step hV hb
  refine⟨?_,?_,?_,below_alloc (below_alloc hbw _) _,by omega,by omega,by omega⟩
  · have:=heap_alloc_new (wq.alloc (spO room)) (stO P blocks frames sess lp pp wq.heap.size (w.heap.size+1))
    rw[s1] at this
    exact this
  · have h1:SpM (wq.alloc (spO room)) wq.heap.size room 0:=heap_alloc_new wq (spO room)
    exact h1.below (below_alloc (Below.refl _ _) _)
  · exact ((hO.below hb).below (below_alloc (Below.refl _ _) _)).below (below_alloc (Below.refl _ _) _)
theorem new_fin {M:Nat→Prop}{dp sp qp mp:Nat}{S:PSys}{wc:World}(h:SysM M w pp lp dp S)(hm:0≤most)(hn:NewIn w P blocks frames sess room most lp pp sp qp mp wc)(hr:S.l.room=room) :
    FwM (Gr M w (wc.setCell ⟨sp,9,none⟩ (.int .i64 (imax 0 most)))) (wc.setCell ⟨sp,9,none⟩ (.int .i64 (imax 0 most))) sp lp pp dp qp mp blocks frames ⟨S,P,sess,[],[],most,room,0,fun _=>0⟩∧Below w.heap.size w (wc.setCell ⟨sp,9,none⟩ (.int .i64 (imax 0 most))):=by
  have hB:Below w.heap.size w (wc.setCell ⟨sp,9,none⟩ (.int .i64 (imax 0 most))):=hn.b.setCell hn.s.1 _
  have hi:imax 0 most=most:=by unfold imax;split<;>omega
  have hbox:=heap_setCell_same wc sp 9 _ _ (.int .i64 (imax 0 most)) hn.box
  have hq:qp≠sp:=fun e=>by
    have h1:=hn.room
    unfold SpM at h1
    rw[e,hn.box] at h1
    injection h1 with h1;injection h1 with _ h1
    exact absurd h1 (by decide)
  have hmp:mp≠sp:=fun e=>by
    obtain⟨n,D,⟨es,cl,h1,_⟩,_⟩:=hn.of
    rw[e,hn.box] at h1
    cases h1
  have hsz:(wc.setCell ⟨sp,9,none⟩ (.int .i64 (imax 0 most))).heap.size=wc.heap.size:=by simp[World.setCell]
  have hlt : ∀{j:Nat} {o:Obj},wc.heap[j]? = some o→j<(wc.setCell ⟨sp,9,none⟩ (.int .i64 (imax 0 most))).heap.size:=fun h=>by rw[hsz];exact heap_lt h
  refine⟨⟨⟨.slice none 0 0,.slice none 0 0,?_,LR.nil _,fun k hk=>by simp[Value.ownBlock] at hk,TR.nil _,fun k hk=>by simp[Value.ownBlock] at hk⟩,(h.below hB).mono fun k hk=>.inl hk,?_,?_,.inr ⟨hn.s.1,hlt hn.box⟩,.inr ⟨hn.s.2.1,hlt hn.room⟩,.inr ⟨hn.s.2.2,?_⟩⟩,hB⟩
  · rw[hi] at hbox ⊢
    exact hbox
  · exact (Below.heap_setCell _ _ _ _ hq).trans hn.room
  · obtain⟨n,D,⟨es,cl,h1,h2⟩,h3⟩:=hn.of
    exact⟨n,D,⟨es,cl,(Below.heap_setCell _ _ _ _ hmp).trans h1,h2⟩,h3⟩
  · obtain⟨n,D,⟨es,cl,h1,_⟩,_⟩:=hn.of
    exact hlt h1
end
theorem cfg_cells {w:World}{b:Nat}{x0 x1 x2 x3:Value}(h:w.heap[b]? = some (.cells #[x0,x1,x2,x3] 31 (0,0))) :
    w.cell? ⟨b,0,none⟩=some x0∧w.cell? ⟨b,1,none⟩=some x1∧w.cell? ⟨b,2,none⟩=some x2∧w.cell? ⟨b,3,none⟩=some x3:=by
  refine⟨?_,?_,?_,?_⟩<;>simp[World.cell?,h]
theorem new_calls (M:Nat→Prop)(lp pp dp:Nat)(S:PSys)(P blocks frames sess most:Int)(w:World)(h:SysM M w pp lp dp S)(hr:0≤S.l.room∧S.l.room≤1073741824)(hm:0≤most) :
    Calls Tryz.prog 58 #[.agg #[.int .i64 P,.int .i64 blocks,.int .i64 frames,.int .i64 sess],.pointer (some ⟨lp,0,none⟩),.pointer (some ⟨pp,0,none⟩),.int .i64 most] w fun e w'=>
      ∃sp qp mp,e = .returned (.pointer (some ⟨sp,0,none⟩))∧FwM (Gr M w w') w' sp lp pp dp qp mp blocks frames ⟨S,P,sess,[],[],most,S.l.room,0,fun _=>0⟩∧Below w.heap.size w w':=by
  obtain⟨lv,hlg⟩:=h.log
  obtain⟨room,hroom⟩ : ∃r,S.l.room=r:=⟨_,rfl⟩
  have HROOM:=Aside0.mk (fun (W:World) (hb:Below w.heap.size w W)=>by
    have:=room_log M lp dp lv S.l W (hlg.below hb)
    rw[hroom] at this
    exact this)
  have HROOM2:=Aside0.mk (fun (W:World) (hb:Below w.heap.size w W) (o:Obj) (ho:W.heap[w.heap.size]? = some o)=>(HROOM.out W hb).mono (fun e w' hh=>(⟨hh.1,hh.2,(hh.2.block _ (heap_lt ho)).trans ho⟩:e = .returned (.int .i64 room)∧Below W.heap.size W w'∧w'.heap[w.heap.size]? = some o)))
  have HF:=Aside0.mk h
  have HM:=Aside0.mk hm
  rw[hroom] at hr ⊢
  obtain⟨hr0,hr1⟩:=hr
  have HHR:=Aside0.mk hroom
  clear h hlg hroom hm
  have hmm:=@run_makeMap Tryz.prog
  go_enter Tryz.func58,Tryz.ntmps58
  go_upto_region 1 with fail
  go_cut [9] (fun v9 wx => ∃sp qp mp,v9 = .pointer (some ⟨sp,0,none⟩)∧Aside0 (NewIn w P blocks frames sess room most lp pp sp qp mp wx))
  case first=>
    go_region_law (first
      | (go_simp;go_at_call 18;refine (HROOM2.out _ (by repeat (first | exact Below.refl _ _ | apply below_drew1 | apply below_alloc)) (.cells #[.int .i64 P,.int .i64 blocks,.int .i64 frames,.int .i64 sess] 31 (0,0)) (by first | exact heap_alloc_new w _ | exact (Below.heap_alloc _ _ _ (by show _<(w.heap.push _).size;rw[Array.size_push];omega)).trans (heap_alloc_new w _))).mono ?_;rintro e wq ⟨rfl,hq,hcf⟩;obtain⟨c0,c1,c2,c3⟩:=cfg_cells hcf;have hlq:=heap_lt hcf)
      | (go_simp;go_at_call 110;refine (new_space room hr0 hr1 _).mono ?_;rintro e wq ⟨rfl,rfl⟩))
    all_goals
      go_wp2_with fail
      go_meet
      first
        | exact⟨_,_,_,rfl,⟨newA (below_step (by repeat (first | exact Below.refl _ _ | apply below_drew1 | apply below_alloc)) hq) HM.out⟩⟩
        | exact⟨_,_,_,rfl,⟨newC (below_step (by repeat (first | exact Below.refl _ _ | apply below_drew1 | apply below_alloc)) hq) HM.out⟩⟩
        | exact⟨_,_,_,rfl,⟨newB (by have:=ofm_made (w.alloc (.cells #[.int .i64 P,.int .i64 blocks,.int .i64 frames,.int .i64 sess] 31)) most HM.out;rw[push_size] at this;exact this) (by repeat (first | exact Below.refl _ _ | apply below_drew1 | apply below_alloc)) hq⟩⟩
  case rest=>
    obtain⟨sp,qp,mp,rfl,HN⟩:=hcut
    have hf9:wc.frozen? ⟨sp,9,none⟩=false:=by simp[World.frozen?,HN.out.box]
    have hc9:wc.cell? ⟨sp,9,none⟩=some (.int .i64 0):=by simp[World.cell?,HN.out.box,fwCells]
    go_wp2_with fail
    refine (tseen_calls sp 8 0 most _ hc9 hf9).mono ?_
    rintro e w2 ⟨rfl,hw2⟩
    have HW2:=Aside0.mk hw2
    clear hw2 hc9 hf9
    go_wp2_with fail
    go_ret
    obtain⟨h1,h2⟩:=new_fin HF.out HM.out HN.out HHR.out
    rw[←HW2.out] at h1 h2
    exact⟨sp,qp,mp,rfl,h1,h2⟩
end Go.Proofs.YtaplpeoikebedaaGreatDoor.FwdO
namespace Go.Proofs.YtaplpeoikebedaaGreatDoor.FwdG
open Go.RowKit Go.Maps YtaplpeoikebedaaGreatDoorW.PrintWords YtaplpeoikebedaaGreatDoorW.PrintLast YtaplpeoikebedaaGreatDoorW.PrintMore
open See Mem Page Dirty SysD SysM StoreD StoreF TransT LockT LockU SpaceT WaitT FwdM FwdC FwdE FwdT
attribute [local go_sem] max2_imax min2_imin max_two min_two
end Go.Proofs.YtaplpeoikebedaaGreatDoor.FwdG
namespace Go.Proofs.YtaplpeoikebedaaGreatDoor.First17
open Go.RowKit Go.Maps YtaplpeoikebedaaGreatDoorW.PrintWords YtaplpeoikebedaaGreatDoorW.PrintLast YtaplpeoikebedaaGreatDoorW.PrintMore
open See Mem Page Disk DiskN RecD Pool3 Wal Fresh SysD SysM StoreD StoreF StoreI StoreJ RoomD TransT LockT LockU SpaceT WaitT FwdM FwdP FwdC FwdN FwdO FwdB FwdG
attribute [local go_sem] max2_imax min2_imin max_two min_two
theorem fw_up {n:Nat}{w w1 w2:World}{sp lp pp dp qp mp:Nat}{blocks frames:Int}{F:FS}(hb:Below n w w1)(h:FwM (Gr (fun k=>w.heap.size≤k) w1 w2) w2 sp lp pp dp qp mp blocks frames F):FwM (fun k=>w.heap.size≤k) w2 sp lp pp dp qp mp blocks frames F:=
  FwM.mono h fun k hk=>by
    rcases hk with hk | ⟨h1,_⟩
    · exact hk
    · exact Nat.le_trans hb.size h1
theorem out_all {w:World}{a:Nat→Addr}(h:SentsAll w a):OutAll (fun k=>w.heap.size≤k) a:=fun i hi=>by
  have l1:gl i<w.heap.size:=World.block_lt_of_cell? _ _ (h.cell i hi)
  obtain⟨c,t,hr⟩:=h.row i hi
  have l2:=heap_lt hr
  exact⟨by omega,by omega⟩
end Go.Proofs.YtaplpeoikebedaaGreatDoor.First17
namespace Go.Proofs.YtaplpeoikebedaaGreatDoor.RefN
open Go.RowKit YtaplpeoikebedaaGreatDoorW.PrintWords YtaplpeoikebedaaGreatDoorW.PrintLast YtaplpeoikebedaaGreatDoorW.PrintMore
open See Mem Clone Go.Proofs.YtaplpeoikebedaaGreatDoor.Cell Page PageB PageR Disk DiskN
attribute [local go_sem] max2_imax min2_imin max_two min_two
theorem info_vers:(Tryz.prog.info? 88).map (fun i=>(i.zero,i.size,i.bytes))=some (some (.slice none 0 0),1,24):=by kernel_rfl
theorem news_one (W:World)(b:Nat)(hb:W.heap.size=b)(u:Value)(e:Nat) : ∀j x,[u][j]? = some x→(W.alloc (.cells #[u] e)).cell? ((⟨b,0,none⟩:Addr).add j)=some x:=by
  subst hb
  intro j x hx
  exact World.news_of_block (heap_alloc_new W _) j x hx
theorem one_vers (b:Nat) : ∀u∈[Value.slice (some ⟨b,0,none⟩) 1 1],u.oneCell'=true:=by
  intro u hu
  simp at hu
  subst hu
  rfl
theorem len24v {n:Nat}(h:n≤100000):(n+1)*24≤140737488355328:=by omega
theorem rdisk_calls (n:Int)(w:World) :
    Calls Tryz.prog 80 #[.int .i64 n] w fun e w' => ∃p,e = .returned (.pointer (some ⟨p,0,none⟩))∧Below w.heap.size w w':=by
  obtain⟨i0,hi,hzz⟩:=Option.map_eq_some_iff.1 info_vers
  simp only[Prod.mk.injEq] at hzz
  obtain⟨hz0,hz1,hz2⟩:=hzz
  obtain⟨m,hm⟩ : ∃m,imin (imax n 1) 200=m:=⟨_,rfl⟩
  have hm1:1≤m∧m≤200:=by rw[←hm,imin_eq,imax_eq];omega
  obtain⟨m1,m2⟩:=hm1
  have HI0:=Aside0.mk (And.intro hi (And.intro hz0 (And.intro hz1 hz2)))
  clear hi hz0 hz1 hz2
  go_enter Tryz.func80,Tryz.ntmps80
  go_wp2_with fail
  go_loopg [4] (m.toNat+1) (fun kq v4 w' => ∃(i:Int) (sl:Value) (xs:List Value),v4 = .int .i64 i∧Aside0 (0≤i∧i≤m∧(kq:Int)=m+1 - i∧xs.length=i.toNat)∧Aside0 (w'.heap[w.heap.size]? = some (.cells #[sl,.int .i64 (-1),.bool false] 216 (0,0)))∧Aside0 (w'.ownsRow (w.heap.size+1) 88 1 sl xs.length xs)∧Aside0 (w.heap.size+1≤w'.heap.size)∧Aside0 (Below w.heap.size w w'))
  case atStart=>
    refine⟨0,.slice none 0 0,[],rfl,⟨by omega,by omega,by omega,rfl⟩,⟨?_⟩,⟨World.ownsRow_nil _ _ _ _⟩,⟨by simp⟩,⟨by repeat (first | exact Below.refl _ _ | apply below_drew1 | apply below_alloc)⟩⟩
    show (w.heap.push _)[w.heap.size]? = _
    exact Array.getElem?_push_size
  case round=>
    obtain⟨i,sl,xs,rfl,HI,HBX,HRW,HSZ0,HB⟩:=hrel
    have hi0:0≤i:=HI.out.1
    by_cases hlt:i<m
    · obtain⟨hi,hz0,hz1,hz2⟩:=HI0.out
      have hc0:wr.cell? ⟨w.heap.size,0,none⟩=some sl:=by simp[World.cell?,HBX.out]
      have hf0:wr.frozen? ⟨w.heap.size,0,none⟩=false:=by simp[World.frozen?,HBX.out]
      have hsz:=HSZ0.out
      have hsz1:w.heap.size<wr.heap.size:=hsz
      have hmk:=make256
      have hsz2:w.heap.size<wr.heap.size+1:=by omega
      have hsz3:w.heap.size<wr.heap.size+1+1:=by omega
      have hn5:xs.length≤100000:=by have:=HI.out;omega
      go_wp2_with fail
      go_region_law (first
        | (refine step_append_lies _ (by rfl) _ _ 214 (by rfl) (w.heap.size+1) 88 i0 (.slice none 0 0) 1 24 Tryz.underlying214 hi hz0 hz1 hz2 rfl (by decide) _ xs.length xs (by rfl) (by exact ow_below HRW.out (by repeat (first | exact Below.refl _ _ | apply below_drew1 | apply below_alloc))) ⟨wr.heap.size+2,0,none⟩ 1 1 [.slice (some ⟨wr.heap.size+1,0,none⟩) 1 1] (by rfl) rfl (by exact news_one _ _ (by simp) _ _) (by exact one_vers _) (by decide) (by exact len_ok hn5) (by exact len24v hn5) (by simp;omega) (wr.heap.size+3) (by simp) ?_;intro g2 cap2 w3 hown hgr hor hlt3;have hblk:w3.heap[w.heap.size]? = wr.heap[w.heap.size]? := grown_blk hgr (by exact (show Below wr.heap.size wr _ by repeat (first | exact Below.refl _ _ | apply below_drew1 | apply below_alloc)).block _ hsz1) (by simp;omega) (fun k hk=>by have:=(ow_block HRW.out hk).1;omega);have hs1:w3.cell? ⟨w.heap.size,0,none⟩=some sl:=(World.cell?_of_block (w:=wr) (a:=⟨w.heap.size,0,none⟩) hblk).trans hc0;have hs2:w3.frozen? ⟨w.heap.size,0,none⟩=false:=(World.frozen?_of_block (w:=wr) (a:=⟨w.heap.size,0,none⟩) hblk).trans hf0))
      all_goals
        have HSZ:=Aside0.mk (show wr.heap.size+2≤w3.heap.size by have:=hgr.size;simp at this;omega)
        have HO3:=Aside0.mk (show w3.ownsRow (w.heap.size+1) 88 1 (.slice (some ⟨g2,0,none⟩) (xs.length+1) cap2) (xs.length+1) (xs++[.slice (some ⟨wr.heap.size+1,0,none⟩) 1 1]) from hown)
        have HB3:=Aside0.mk (show Below w.heap.size w w3 from (HB.out.trans (Below.mono (show Below wr.heap.size wr _ by repeat (first | exact Below.refl _ _ | apply below_drew1 | apply below_alloc)) (by omega))).grown (w:=_) hgr (by simp;omega) (fun k hk=>by have:=(ow_block HRW.out hk).1;omega))
        have HBK:=Aside0.mk (hblk.trans HBX.out)
        clear hown hgr hor hlt3 hblk hi hz0 hz1 hz2 hmk hc0 hf0
        go_wp2_with fail
        go_roundg (gk - 1)
        case measure=>have:=HI.out;omega
        case rel=>
          refine⟨i+1,.slice (some ⟨g2,0,none⟩) (xs.length+1) cap2,xs++[.slice (some ⟨wr.heap.size+1,0,none⟩) 1 1],rfl,⟨by omega,by omega,by have:=HI.out;omega,by rw[List.length_append];have:=HI.out;simp;omega⟩,⟨?_⟩,⟨?_⟩,⟨?_⟩,⟨HB3.out.setCell (Nat.le_refl _) _⟩⟩
          · rw[heap_setCell_same _ _ _ _ _ _ HBK.out]
            simp
          · rw[List.length_append]
            exact ow_move HO3.out (fun k hk=>Below.heap_setCell _ _ _ _ (by have:=(ow_block HO3.out hk).1;show k≠w.heap.size;omega))
          · have:=HSZ.out
            simp[World.setCell]
            omega
    · go_wp2_with fail
      go_ret
      first
        | exact⟨⟨w.heap.size,rfl⟩,HB.out⟩
        | exact⟨w.heap.size,rfl,HB.out⟩
        | exact HB.out
theorem rlog_calls (dp:Nat)(f b s e:Int)(w:World) :
    Calls Tryz.prog 81 #[.pointer (some ⟨dp,0,none⟩),.int .i64 f,.int .i64 b,.int .i64 s,.int .i64 e] w fun q w'=>q = .returned (.pointer (some ⟨w.heap.size,0,none⟩))∧w'.heap[w.heap.size]? = some (.cells #[.pointer (some ⟨dp,0,none⟩),.int .i64 f,.int .i64 b,.int .i64 s,.int .i64 e,.slice none 0 0,.int .i64 s] 218 (0,0))∧Below w.heap.size w w':=by
  go_enter Tryz.func81,Tryz.ntmps81
  go_wp2_with fail
  go_ret
  first
    | exact⟨rfl,heap_alloc_new _ _,below_alloc (Below.refl _ _) _⟩
    | exact⟨heap_alloc_new _ _,below_alloc (Below.refl _ _) _⟩
    | exact below_alloc (Below.refl _ _) _
    | trace_state
theorem rpool_calls (dp lp:Nat)(n:Int)(w:World) :
    Calls Tryz.prog 84 #[.pointer (some ⟨dp,0,none⟩),.pointer (some ⟨lp,0,none⟩),.int .i64 n] w fun q w'=>q = .returned (.pointer (some ⟨w.heap.size,0,none⟩))∧Below w.heap.size w w':=by
  go_enter Tryz.func84,Tryz.ntmps84
  go_wp2_with fail
  go_ret
  first
    | exact⟨rfl,below_alloc (Below.refl _ _) _⟩
    | exact below_alloc (Below.refl _ _) _
    | trace_state
theorem rspace_calls (n:Int)(w:World) :
    Calls Tryz.prog 140 #[.int .i64 n] w fun q w' => ∃p,q = .returned (.pointer (some ⟨p,0,none⟩))∧Below w.heap.size w w':=by
  go_enter Tryz.func140,Tryz.ntmps140
  go_wp2_with fail
  go_ret
  first
    | exact⟨⟨_,rfl⟩,below_alloc (Below.refl _ _) _⟩
    | exact⟨_,rfl,below_alloc (Below.refl _ _) _⟩
    | exact below_alloc (Below.refl _ _) _
    | trace_state
theorem rlast_calls (p:Nat)(w:World)(c3:w.cell? ⟨p,3,none⟩=some (.int .i64 0))(c5:w.cell? ⟨p,5,none⟩=some (.slice none 0 0)) :
    Calls Tryz.prog 196 #[.pointer (some ⟨p,0,none⟩)] w fun e w'=>e = .returned (.int .i64 0)∧Below w.heap.size w w':=by
  go_enter Tryz.func196,Tryz.ntmps196
  go_wp2_with fail
  go_quiet (fail)
  go_wp2_with fail
  go_ret
  exact⟨by simp,by repeat (first | exact Below.refl _ _ | apply pw_below_drewN | apply below_drew1)⟩
theorem rroom_calls (p:Nat)(b:Int)(w:World)(hb:0≤b∧b≤100)(c2:w.cell? ⟨p,2,none⟩=some (.int .i64 b))(c3:w.cell? ⟨p,3,none⟩=some (.int .i64 0))(c5:w.cell? ⟨p,5,none⟩=some (.slice none 0 0)) :
    Calls Tryz.prog 141 #[.pointer (some ⟨p,0,none⟩)] w fun e w' => ∃r:Int,e = .returned (.int .i64 r)∧Below w.heap.size w w':=by
  have HL:=Aside0.mk (fun (V:World) (hb:Below w.heap.size w V)=>rlast_calls p V (pw_cell_below hb c3) (pw_cell_below hb c5))
  obtain⟨q1,q2⟩:=hb
  have hw1:IntKind.i64.wrap (6*b)=6*b:=IntWalk.i64_in _ (by omega)
  clear c3
  go_enter Tryz.func141,Tryz.ntmps141
  go_wp2_with fail
  go_region_held3 (fun w'=>w'.cell? ⟨p,2,none⟩=some (.int .i64 b)∧w'.cell? ⟨p,5,none⟩=some (.slice none 0 0))
    (refine⟨?_,?_⟩<;>(first | go_keep | exact hk1 | exact hk2))
    (first | (go_at_call 196;refine (HL.out _ (by repeat (first | exact Below.refl _ _ | apply below_drew1))).mono ?_;rintro e w1 ⟨rfl,hb⟩;have hk1:w1.cell? ⟨p,2,none⟩=some (.int .i64 b):=pw_cell_below hb c2;have hk2:w1.cell? ⟨p,5,none⟩=some (.slice none 0 0):=pw_cell_below hb c5))
  have HB:=Aside0.mk (show Below w.heap.size w w1 from⟨hb.os,hb.tape,hb.output,hb.size,hb.block⟩)
  clear hb
  go_wp2_with fail
  go_ret
  exact⟨_,rfl,HB.out⟩
theorem rseen_calls (p o:Nat)(w:World)(c:w.cell? ⟨p,o+1,none⟩=some (.int .i64 0))(f:w.frozen? ⟨p,o+1,none⟩=false) :
    Calls Tryz.prog 142 #[.pointer (some ⟨p,o,none⟩),.int .i64 0] w fun e w'=>(∃v,w'=w.setCell ⟨p,o+1,none⟩ v)∧∃v,e = .returned v:=by
  go_enter Tryz.func142,Tryz.ntmps142
  go_wp2_with fail
  go_end0
  first
    | exact⟨⟨_,rfl⟩,_,rfl⟩
    | exact⟨_,rfl⟩
    | trace_state
theorem cellx {w:World}{b:Nat}{cs:Array Value}{t:Nat}(h:w.heap[b]? = some (.cells cs t (0,0))){i:Nat}{v:Value}(hv:cs[i]? = some v):w.cell? ⟨b,i,none⟩=some v∧w.frozen? ⟨b,i,none⟩=false:=by
  refine⟨?_,?_⟩<;>simp[World.cell?,World.frozen?,h,hv]
theorem cfg4 {w:World}{b:Nat}{x0 x1 x2 x3:Value}(h:w.heap[b]? = some (.cells #[x0,x1,x2,x3] 31 (0,0))) :
    w.cell? ⟨b,0,none⟩=some x0∧w.cell? ⟨b,1,none⟩=some x1∧w.cell? ⟨b,2,none⟩=some x2∧w.cell? ⟨b,3,none⟩=some x3:=by
  refine⟨?_,?_,?_,?_⟩<;>simp[World.cell?,h]
end Go.Proofs.YtaplpeoikebedaaGreatDoor.RefN
namespace Go.Proofs.YtaplpeoikebedaaGreatDoor.BackN
open Go.RowKit Go.Maps YtaplpeoikebedaaGreatDoorW.PrintWords YtaplpeoikebedaaGreatDoorW.PrintLast YtaplpeoikebedaaGreatDoorW.PrintMore
open See Mem Page Disk DiskN RecD Pool2 Pool3 Wal Fresh SysD SysM StoreD StoreF StoreI StoreJ RoomD TransT LockT LockU SpaceT WaitT FwdM FwdP FwdC FwdN FwdO FwdB FwdG First17 RefN BackM BackV
attribute [local go_sem] max2_imax min2_imin max_two min_two
def newB (F:FS):BSt:=⟨F,fun _=>⟨0,[]⟩,0⟩
theorem bnew_calls (n0 sp lp pp dp qp mp:Nat)(blocks frames:Int)(F:FS)(w:World)(h:FwM (fun k=>n0≤k) w sp lp pp dp qp mp blocks frames F)(hn:n0≤w.heap.size) :
    Calls Tryz.prog 82 #[.pointer (some ⟨sp,0,none⟩)] w fun e w' => ∃bp bm,e = .returned (.pointer (some ⟨bp,0,none⟩))∧BkM (fun k=>n0≤k) w' bp bm sp lp pp dp qp mp blocks frames (newB F)∧Below w.heap.size w w':=by
  have HF:=Aside0.mk h
  clear h
  have hmm:=@run_makeMap Tryz.prog
  go_enter Tryz.func82,Tryz.ntmps82
  go_wp2_with fail
  have HB:=Aside0.mk (show Below w.heap.size w ((w.alloc (.map #[] 0)).alloc (.cells #[.pointer (some ⟨sp,0,none⟩),.map (some w.heap.size)] 61)) from by repeat (first | exact Below.refl _ _ | apply below_alloc))
  have HS:=Aside0.mk (show SvM ((w.alloc (.map #[] 0)).alloc (.cells #[.pointer (some ⟨sp,0,none⟩),.map (some w.heap.size)] 61)) w.heap.size 0 (fun _=>svV 0 (.slice none 0 0)) from
    ⟨0,.map [],(World.ownsMap_made w Tryz.prog 3 rS).alloc _,Int.le_refl _,fun s=>rfl⟩)
  have HX:=Aside0.mk (show ((w.alloc (.map #[] 0)).alloc (.cells #[.pointer (some ⟨sp,0,none⟩),.map (some w.heap.size)] 61)).heap[w.heap.size+1]? = some (.cells #[.pointer (some ⟨sp,0,none⟩),.map (some w.heap.size)] 61 (0,0)) from
    ChangeT.alloc_at _ _ (show (w.alloc _).heap.size=w.heap.size+1 from by show (w.heap.push _).size=_;rw[Array.size_push]))
  go_ret
  refine⟨w.heap.size+1,w.heap.size,rfl,⟨Cut (fun k=>n0≤k) w.heap.size,fun _=>.slice none 0 0,HX.out,(FwM.cut HF.out).below HB.out,HS.out,fun s=>IS.nil _ _,fun k hk=>⟨hk.1,by have:=hk.2;omega,by have:=hk.2;omega,fun s=>by simp[Value.ownBlock]⟩,fun s k hk=>by simp[Value.ownBlock] at hk,fun s t k hk=>by simp[Value.ownBlock] at hk,⟨by show n0≤_;omega,hn⟩⟩,HB.out⟩
theorem cfg_keep {w w':World}{b:Nat}{o:Obj}(h:w.heap[b]? = some o)(hb:Below w.heap.size w w'):w'.heap[b]? = some o:=(hb.block _ (heap_lt h)).trans h
end Go.Proofs.YtaplpeoikebedaaGreatDoor.BackN
