/- Joined texts: BackV, BackS, BackU, StoreV, StoreW, StoreK, BackA, TwiceD, RecsD, ValD. No condition but what each says. -/
import Derived.Test.YtaplpeoikebedaaGreatDoorX34
import Derived.Test.YtaplpeoikebedaaGreatDoorX31
import Derived.Test.YtaplpeoikebedaaGreatDoorX33
import Derived.Test.YtaplpeoikebedaaGreatDoorX24
import Derived.Test.YtaplpeoikebedaaGreatDoorX30
import Derived.Test.YtaplpeoikebedaaGreatDoorX28
import Derived.BigQuiet
set_option maxHeartbeats 8000000
set_option maxRecDepth 100000
set_option linter.unusedVariables false
set_option linter.unusedSimpArgs false
namespace Go.Proofs.YtaplpeoikebedaaGreatDoor.BackV
open Go.RowKit Go.Maps YtaplpeoikebedaaGreatDoorW.PrintWords YtaplpeoikebedaaGreatDoorW.PrintLast YtaplpeoikebedaaGreatDoorW.PrintMore
open See Mem Clone Go.Proofs.YtaplpeoikebedaaGreatDoor.Cell Page PageB PageR Disk Dirty Pool2 SysD SysM StoreD StoreF TransT LockT LockU SpaceT WaitT FwdM FwdP FwdC FwdE FwdT BackM BackW
attribute [local go_sem] max2_imax min2_imin max_two min_two
theorem SvM.put {w:World}{bm:Nat}{m:Int}{vv:Int→Value}(h:SvM w bm m vv){s:Int}{v:Value}(h0 : -9223372036854775808≤s)(h1:s≤9223372036854775807)(hm:m<1000000) :
    ∃w',(Instr.mapUpdate 59 (.map (some bm)) (.int .i64 s) v).run Tryz.prog w = .ok () w'∧SvM w' bm (m+1) (fun t=>if t=s then v else vv t)∧w.grownBy w' (some bm):=by
  obtain⟨n,D,hown,hn,hat⟩:=h
  obtain⟨w',hrun,hown',hg⟩:=hown.update (key:=.int .i64 s) (val:=v) (d:=.held v) (ps:=[]) (int_keyed Tryz.underlying3) Tryz.underlying59 (by unfold maxLen;omega) (keyOf_int_mk Tryz.underlying3 (wf64 h0 h1)) rfl
  refine⟨w',hrun,⟨n+1,_,hown',by push_cast;omega,fun t => ?_⟩,hg⟩
  show _=DataW.held (if t=s then v else vv t)
  by_cases e:t=s
  · rw[if_pos e,e]
    exact atKey_put_same (k:=.int .i64 s) hown.isMap trivial _ _
  · rw[if_neg e,atKey_put_other (fun h=>e (by injection h)),hat]
def updS (sv:Int→Sv)(n:Int)(v:Sv):Int→Sv:=fun t=>if t=n then v else sv t
theorem BkIn.put {M R:Nat→Prop}{bp bm sp lp pp dp qp mp:Nat}{blocks frames:Int}{B:BSt}{sl:Int→Value}{w w':World}(h:BkIn M w bp bm sp lp pp dp qp mp blocks frames B R sl){n id t:Int}{v':Value}{xs':List Int}{nu:Int}
    (hos:w'.os=w.os∧w'.tape=w.tape∧w'.output=w.output) (hsz:w.heap.size≤w'.heap.size) (hfar : ∀j,j<w.heap.size→j≠bm→(slOf B sl n id).ownBlock≠some j→w'.heap[j]? = w.heap[j]?)
    (hmap:SvM w' bm nu (fun s=>if s=n then svV t v' else svV (B.sv s).txn (sl s))) (hrow:IS w' 0 v' xs') (hown : ∀g,v'.ownBlock=some g→(slOf B sl n id).ownBlock=some g∨(w.heap.size≤g∧g<w'.heap.size)) :
    BkPost M bp bm sp lp pp dp qp mp blocks frames { F:=B.F,sv:=updS B.sv n ⟨t,xs'⟩,nu:=nu } w w':=by
  obtain⟨es,cl,hm⟩:=h.map.map
  have hsl : ∀j,(slOf B sl n id).ownBlock=some j→(sl n).ownBlock=some j:=fun j hj=>by
    unfold slOf at hj
    split at hj
    · exact hj
    · simp[Value.ownBlock] at hj
  have nb : ¬R bp:=fun hr=>(h.r bp hr).2.1 rfl
  have nm : ¬R bm:=fun hr=>(h.r bm hr).2.2.1 rfl
  have hml:=heap_lt hm
  have hbl:=heap_lt h.box
  have hbm:bp≠bm:=fun e=>by have:=h.box;rw[e,hm] at this;cases this
  have tm:tag w bm=0:=by unfold tag;rw[hm]
  have hrow0 : ∀j,(slOf B sl n id).ownBlock=some j→j<w.heap.size∧tag w j=3∧¬R j∧j≠bp∧j≠bm:=fun j hj=>by
    obtain⟨a,b,c⟩:=h.rowAt (hsl j hj)
    refine⟨a,b,c,fun e => ?_,fun e => ?_⟩
    · rw[e,tag_of h.box] at b;exact absurd b (by decide)
    · rw[e,tm] at b;exact absurd b (by decide)
  have hf:FwM (Cut R w.heap.size) w' sp lp pp dp qp mp blocks frames B.F:=FwM.out (FwM.cut h.f) fun k hk hh=>hfar k hk (fun e=>by
    subst e
    rcases hh with hh | hh | hh
    · exact nm hh.1
    · rw[tm] at hh;exact absurd hh (by decide)
    · rw[tm] at hh;exact absurd hh (by decide)) (fun e=>by
    obtain⟨a,b,c,_⟩:=hrow0 k e
    rcases hh with hh | hh | hh
    · exact c hh.1
    · rw[b] at hh;exact absurd hh (by decide)
    · rw[b] at hh;exact absurd hh (by decide))
  refine⟨⟨Cut R w.heap.size,fun s=>if s=n then v' else sl s,(hfar bp hbl hbm fun e=>(hrow0 bp e).2.2.2.1 rfl).trans h.box,hf,?_,fun s => ?_,fun k hk => ?_,fun s k hk => ?_,fun s u k hs hu => ?_,.inl h.low.1,.inl h.low.2⟩,⟨hos.1,hos.2.1,hos.2.2,hsz,fun k hk hn => ?_,fun k hk ht => ?_⟩⟩
  · have e:(fun s=>svV ((updS B.sv n ⟨t,xs'⟩) s).txn (if s=n then v' else sl s))=(fun s=>if s=n then svV t v' else svV (B.sv s).txn (sl s)):=by
      funext s
      unfold updS
      by_cases e:s=n
      · rw[if_pos e,if_pos e,if_pos e]
      · rw[if_neg e,if_neg e,if_neg e]
    show SvM w' bm nu (fun s=>svV ((updS B.sv n ⟨t,xs'⟩) s).txn (if s=n then v' else sl s))
    rw[e];exact hmap
  · show IS w' 0 (if s=n then v' else sl s) ((updS B.sv n ⟨t,xs'⟩) s).l
    unfold updS
    by_cases e:s=n
    · rw[if_pos e,if_pos e];exact hrow
    · rw[if_neg e,if_neg e]
      refine ow_move (h.row s) fun j hj => ?_
      obtain⟨a,b,_⟩:=h.rowAt hj
      exact hfar j a (fun e2=>by rw[e2,tm] at b;exact absurd b (by decide)) (fun e2=>e (h.apart s n j hj (hsl j e2)))
  · obtain⟨a,b,c,d⟩:=h.r k hk.1
    refine⟨.inl a,b,c,fun s hs => ?_⟩
    by_cases e:s=n
    · rw[if_pos e] at hs
      rcases hown k hs with hs | ⟨q,_⟩
      · exact d n (hsl k hs)
      · have:=hk.2;omega
    · rw[if_neg e] at hs
      exact d s hs
  · by_cases e:s=n
    · rw[if_pos e] at hk
      rcases hown k hk with hk | hk
      · exact .inl (h.own n k (hsl k hk))
      · exact .inr hk
    · rw[if_neg e] at hk
      exact .inl (h.own s k hk)
  · by_cases e:s=n
    · by_cases e2:u=n
      · rw[e,e2]
      · exfalso
        rw[if_pos e] at hs
        rw[if_neg e2] at hu
        rcases hown k hs with hs | ⟨q,_⟩
        · exact e2 (h.apart u n k hu (hsl k hs))
        · have:=(h.rowAt hu).1;omega
    · by_cases e2:u=n
      · exfalso
        rw[if_neg e] at hs
        rw[if_pos e2] at hu
        rcases hown k hu with hu | ⟨q,_⟩
        · exact e (h.apart s n k hs (hsl k hu))
        · have:=(h.rowAt hs).1;omega
      · rw[if_neg e] at hs
        rw[if_neg e2] at hu
        exact h.apart s u k hs hu
  · exact hfar k hk (fun e=>hn (by rw[e];exact h.low.2)) (fun e=>hn (h.own n k (hsl k e)))
  · exact hfar k hk (fun e=>by rw[e,tm] at ht;exact absurd ht (by decide)) (fun e=>by rw[(hrow0 k e).2.1] at ht;exact absurd ht (by decide))
end Go.Proofs.YtaplpeoikebedaaGreatDoor.BackV
namespace Go.Proofs.YtaplpeoikebedaaGreatDoor.BackS
open Go.RowKit Go.Maps YtaplpeoikebedaaGreatDoorW.PrintWords YtaplpeoikebedaaGreatDoorW.PrintLast YtaplpeoikebedaaGreatDoorW.PrintMore
open See Mem Page Disk DiskN DiskW RecD Rec Dirty Wal WalF WalR PoolG PoolS SysD SysM FlushG Pager StoreD PageM StoreF StoreG StoreH StoreI StoreJ TransT LockT LockU SpaceT WaitT ChainT ChangeT ChangeU FwdM FwdP FwdC FwdT FwdB FwdS BackD
attribute [local go_sem] max2_imax min2_imin max_two min_two
end Go.Proofs.YtaplpeoikebedaaGreatDoor.BackS
namespace Go.Proofs.YtaplpeoikebedaaGreatDoor.BackU
open Go.RowKit Go.Maps YtaplpeoikebedaaGreatDoorW.PrintWords YtaplpeoikebedaaGreatDoorW.PrintLast YtaplpeoikebedaaGreatDoorW.PrintMore
open See Mem Clone Go.Proofs.YtaplpeoikebedaaGreatDoor.Cell Page PageB PageR Disk Dirty Pool2 RecD Wal WalF PoolG PoolS SysD SysM StoreD StoreF StoreH TransT LockT LockU SpaceT WaitT FwdM FwdP FwdC FwdE FwdT BackD BackL BackS BackM BackW BackV
attribute [local go_sem] max2_imax min2_imin max_two min_two
theorem parts_calls (M:Nat→Prop)(sp lp pp dp qp mp:Nat)(blocks frames:Int)(F:FS)(w:World)(h:FwM M w sp lp pp dp qp mp blocks frames F) :
    Calls Tryz.prog 88 #[.pointer (some ⟨sp,0,none⟩)] w fun e w'=>e = .returned (.tuple #[.pointer (some ⟨lp,0,none⟩),.pointer (some ⟨pp,0,none⟩),.pointer (some ⟨sp,8,none⟩),.pointer (some ⟨qp,0,none⟩)])∧Below w.heap.size w w':=by
  obtain⟨_,_,k4,k5,_,_,k10,_⟩:=h.cells
  have hspl:sp<w.heap.size:=by obtain⟨kv,tv,b1,_⟩:=h.box;exact heap_lt b1
  clear h
  go_enter Tryz.func88,Tryz.ntmps88
  go_wp2_with fail
  go_quiet (fail)
  have HB:=Aside0.mk (pw_below_drewN (Below.refl w.heap.size w) nq)
  go_wp2_with fail
  exact bodyPost_ret (v:=.tuple #[.pointer (some ⟨lp,0,none⟩),.pointer (some ⟨pp,0,none⟩),.pointer (some ⟨sp,8,none⟩),.pointer (some ⟨qp,0,none⟩)]) (by simp[results,Tryz.results88,go_sem]) rfl ⟨rfl,HB.out⟩
end Go.Proofs.YtaplpeoikebedaaGreatDoor.BackU
namespace Go.Proofs.YtaplpeoikebedaaGreatDoor.StoreV
open Go.RowKit See Mem Page PageB PageR PageL Disk DiskW RecD Dirty Dirty2 SysD SysM Wal WalF GoodD PoolG PoolS FlushG Fresh DirtD Pager StoreD PageM StoreF StoreG StoreH LockT LockU StoreI StoreJ
theorem mem_takeL {ks:List Lk}{s key md:Int}(hm:md≤2){x:Lk}(hx:x∈ks)(h2:x.mode=2):x∈takeL ks s key md:=by
  unfold takeL
  split
  · exact List.mem_append_left _ hx
  · obtain⟨j,hj,e⟩:=List.getElem_of_mem hx
    refine List.mem_of_getElem? (i:=j) ?_
    rw[List.getElem?_modify,List.getElem?_eq_getElem hj,e]
    by_cases q:(lkIdx s key ks 0).toNat=j
    · cases x
      simp[q] at h2 ⊢
      omega
    · simp[q]
theorem s_takeL {ks:List Lk}{s key md:Int}(h : ∀x∈ks,x.s=s) : ∀x∈takeL ks s key md,x.s=s:=by
  unfold takeL
  split
  · intro x hx
    rcases List.mem_append.1 hx with hx | hx
    · exact h x hx
    · rw[List.mem_singleton] at hx;rw[hx]
  · intro x hx
    obtain⟨j,hj⟩:=List.mem_iff_getElem?.1 hx
    rw[List.getElem?_modify] at hj
    obtain⟨y,hy,e⟩:=Option.map_eq_some_iff.1 hj
    have:=h y (List.mem_of_getElem? hy)
    rw[←e]
    split<;>exact this
theorem len_takeL (ks:List Lk)(s key md:Int):(takeL ks s key md).length≤ks.length+1:=by
  unfold takeL
  split<;>simp
theorem who_one {ks:List Lk}{s:Int}(h : ∀x∈ks,x.s=s)(key md:Int):whoL ks s key md=[]:=by
  unfold whoL
  rw[List.map_eq_nil_iff,List.filter_eq_nil_iff]
  intro x hx e
  unfold inWay at e
  simp only[Bool.and_eq_true,bne_iff_ne] at e
  exact e.1.2 (h x hx)
theorem FOk.locks2 {N m:Nat}{ch:Int→List Int}{kp:Int→Int}{F:FS}(h:FOk N m ch kp F){ks:List Lk}(hk : ∀x∈F.ks,x.mode=2→x∈ks):FOk N m ch kp { F with ks:=ks }:=
  ⟨⟨h.g.pg,h.g.fit,h.g.lok,h.g.fuse,h.g.loose,h.g.lsn,h.g.six,h.g.p32,h.g.room⟩,⟨h.t.rise,h.t.ids,h.t.most,h.t.ofs,h.t.inj,h.t.on⟩,⟨h.c.last,h.c.next,fun x hx k hk2 r hr=>by
    obtain⟨a,b,lk,c1,c2,c3⟩:=h.c.sets x hx k hk2 r hr
    exact⟨a,b,lk,hk lk c1 c2,c2,c3⟩,h.c.kept,h.c.cap⟩⟩
theorem read_ok {N m:Nat}{ch:Int→List Int}{kp:Int→Int}{F:FS}(h:FOk N m ch kp F)(n key hint:Int) :
    FOk N (m+1) ch kp (takesF F n key 1 hint)∧(∀k,vals (takesF F n key 1 hint) k=vals F k)∧(takesF F n key 1 hint).S.l.last=F.S.l.last∧(∀k,recOf (takesF F n key 1 hint).S.l k=recOf F.S.l k)∧(takesF F n key 1 hint).S.frames=F.S.frames ∧
    has (cur F.S (placeOf key F.P)).2 key=(vals F key).isSome∧fromOf (cur F.S (placeOf key F.P)).2 key=(vals F key).getD 0:=by
  obtain⟨p1,p2⟩:=placeOf_in key h.g.pg.pages
  obtain⟨S',e1,e2,e3,e4⟩:=get_ok h hint p1 p2
  have hF:takesF F n key 1 hint={ F with ks:=takeL F.ks n key 1,S:=S' }:=by unfold takesF;rw[e1]
  obtain⟨l1,l2,l3,l4,l5⟩:=e3.ll
  rw[hF]
  have hr:=PageV.rise (h.g.pg.curV p1 p2)
  refine⟨FOk.locks2 e2 fun x hx h2=>mem_takeL (by omega) hx h2,fun k=>vals_to h.g.pg.pages e3 k,(room_done (L:=F.S.l) (L':=S'.l) ⟨l2,l3,l1⟩).2,fun k=>recOf_done l2 l1 k,e3.frames,has_val hr key,?_⟩
  rw[from_val hr]
  unfold vals
  cases val (cur F.S (placeOf key F.P)).2 key<;>rfl
end Go.Proofs.YtaplpeoikebedaaGreatDoor.StoreV
namespace Go.Proofs.YtaplpeoikebedaaGreatDoor.StoreW
open Go.RowKit See Mem Page PageB PageR PageL Disk DiskW RecD Dirty Dirty2 SysD SysM Wal WalF GoodD PoolG PoolS FlushG Fresh DirtD Pager StoreD PageM StoreF StoreG StoreH LockT LockU StoreI StoreJ StoreV BackD BackL
structure ChgR (N m:Nat) (ch:Int→List Int) (kp:Int→Int) (F:FS) (id key:Int) (nv:Option Int) (F':FS):Prop where
  ok:FOk N (m+1) (updc ch id ((F.S.l.last+1) :: ch id)) kp F'
  vals_ : ∀k,vals F' k=if k=key then nv else vals F k
  rew:undoV F'.S.l (F.S.l.last+1) (vals F')=vals F
  old : ∀n r,recOf F.S.l n=some r→recOf F'.S.l n=some r
  new : ∃r,recOf F'.S.l (F.S.l.last+1)=some r
  last:F'.S.l.last=F.S.l.last+1
  same:F'.P=F.P∧F'.sess=F.sess∧F'.most=F.most∧F'.of=F.of∧F'.free=F.free - 2∧F'.S.frames=F.S.frames
  has_:thas F'.ts id=true
theorem page_vals {N m:Nat}{ch:Int→List Int}{kp:Int→Int}{F:FS}(h:FOk N m ch kp F)(key:Int):has (cur F.S (placeOf key F.P)).2 key=(vals F key).isSome∧fromOf (cur F.S (placeOf key F.P)).2 key=(vals F key).getD 0:=by
  obtain⟨p1,p2⟩:=placeOf_in key h.g.pg.pages
  have hr:=PageV.rise (h.g.pg.curV p1 p2)
  refine⟨has_val hr key,?_⟩
  rw[from_val hr]
  rfl
theorem chg_set {N m:Nat}{ch:Int→List Int}{kp:Int→Int}{F F1:FS}{id key:Int}{has:Bool}{new:Int}(hl : ∀n,recOf F1.S.l n=recOf F.S.l n)(hlast:F1.S.l.last=F.S.l.last)(hv : ∀k,vals F1 k=vals F k)(hs:F1.P=F.P∧F1.sess=F.sess∧F1.most=F.most∧F1.of=F.of∧F1.free=F.free∧F1.S.frames=F.S.frames)(hid:thas F1.ts id=true)(hr:Rising (kvT F1.ts))
    (hok:FOk N (m+1) (updc ch id ((F1.S.l.last+1) :: ch id)) kp (setF F1 id key (vals F key).isSome ((vals F key).getD 0) has new)) (hvs : ∀k,vals (setF F1 id key (vals F key).isSome ((vals F key).getD 0) has new) k=if k=key then (if has then some new else none) else vals F1 k) :
    ChgR N m ch kp F id key (if has then some new else none) (setF F1 id key (vals F key).isSome ((vals F key).getD 0) has new):=by
  obtain⟨s1,s2,s3,s4,s5,s6⟩:=hs
  have hL:(setF F1 id key (vals F key).isSome ((vals F key).getD 0) has new).S.l=(addRec F1.S (recSet (tget F1.ts id) F1.P key (vals F key).isSome ((vals F key).getD 0) has new)).l:=(chg_l _ _).1
  have hR:=set_rew (F:=F1) (id:=id) (key:=key) (had:=(vals F key).isSome) (old:=(vals F key).getD 0) (has:=has) (new:=new) (by rw[hv]) (by
    rw[hv]
    cases vals F key<;>rfl) (fun k hk=>by rw[hvs,if_neg hk])
  rw[hlast] at hok hR
  refine⟨hok,fun k => ?_,?_,fun n r hn => ?_,⟨_,by rw[hL,←hlast];exact addRec_new _ _⟩,?_,⟨s1,s2,s3,s4,?_,?_⟩,?_⟩
  · rw[hvs]
    split
    · rfl
    · exact hv k
  · rw[hR];funext k;exact hv k
  · rw[hL]
    exact addRec_rec (by rw[hl];exact hn)
  · rw[hL,addRec_last,hlast]
  · show F1.free - 2=_
    rw[s5]
  · rw[←s6]
    exact (chg_l _ _).2
  · show thas (tnote F1.ts id _ _) id=true
    rw[thas_ids (tnote_rise hr),ids_tnote,←thas_ids hr]
    exact hid
theorem takes_same {N m:Nat}{ch:Int→List Int}{kp:Int→Int}{F:FS}(h:FOk N m ch kp F)(n key md hint:Int):(∀k,recOf (takesF F n key md hint).S.l k=recOf F.S.l k)∧(takesF F n key md hint).S.frames=F.S.frames:=by
  obtain⟨p1,p2⟩:=placeOf_in key h.g.pg.pages
  obtain⟨S',e1,e2,e3,e4⟩:=get_ok h hint p1 p2
  have hF:(takesF F n key md hint).S=S':=by unfold takesF;rw[e1]
  obtain⟨l1,l2,l3,l4,l5⟩:=e3.ll
  rw[hF]
  exact⟨fun k=>recOf_done l2 l1 k,e3.frames⟩
theorem chg_put {N m:Nat}{ch:Int→List Int}{kp:Int→Int}{F:FS}{own:Int→Int}{n key v hint:Int}(h:FOk N m ch kp F)(hk:KOk own F.ks)(he:own key=n)(hid:thas F.ts (F.of n)=true)(hkey:0≤key∧key<1048576)(hv:is64 v)(hfr:2≤F.free)(hnf:(vals F key).isSome=true∨fullB (takesF F n key 2 hint) key=false) :
    ∃F',putR F n key v hint=(F',(vals F key).getD 0,(vals F key).isSome,none)∧ChgR N m ch kp F (F.of n) key (some v) F'∧KOk own F'.ks∧F'.ks=takeL F.ks n key 2:=by
  obtain⟨t1,t2,t3,t4,t5,t6,t7,t8,t9⟩:=takes_ok h hk he hkey hint
  obtain⟨p1,p2⟩:=placeOf_in key h.g.pg.pages
  have hcur:=t5 _ p1 p2
  obtain⟨v1,v2⟩:=page_vals h key
  obtain⟨q1,q2⟩:=takes_same h n key 2 hint
  obtain⟨x,x1,x2,x3,x4⟩:=t8
  have hP:(takesF F n key 2 hint).P=F.P:=rfl
  have hp:=put_ok (F:=takesF F n key 2 hint) (id:=F.of n) (key:=key) (v:=v) t2 hid t6 hkey hv ⟨x,x1,x2,x3,by rw[x4];rfl⟩ (by show 2≤F.free;omega) (by
    rw[hP,hcur,v1]
    exact hnf)
  rw[hP,hcur,v1,v2] at hp
  obtain⟨_,_,_,h4,h5⟩:=hp
  refine⟨setF (takesF F n key 2 hint) (F.of n) key (vals F key).isSome ((vals F key).getD 0) true v,?_,?_,t3,rfl⟩
  · unfold putR
    rw[v1,v2,if_neg,if_neg (by omega)]
    rintro⟨c1,c2⟩
    rcases hnf with h | h
    · rw[h] at c1;cases c1
    · rw[h] at c2;cases c2
  · have:=chg_set (F:=F) (F1:=takesF F n key 2 hint) (id:=F.of n) (key:=key) (has:=true) (new:=v) q1 t7 t4 ⟨rfl,rfl,rfl,rfl,rfl,q2⟩ hid t2.t.rise h4 (fun k=>by rw[h5 k];simp)
    exact this
end Go.Proofs.YtaplpeoikebedaaGreatDoor.StoreW
namespace Go.Proofs.YtaplpeoikebedaaGreatDoor.StoreK
open Go.RowKit See Mem Page PageB PageR PageL Disk DiskW RecD Dirty Dirty2 SysD SysM Wal WalF GoodD PoolG PoolS FlushG Fresh DirtD Pager StoreD PageM StoreF StoreG StoreH StoreI StoreJ
def flushF (F:FS):FS:={ F with S:={ F.S with l:=(lflush F.S.l F.S.d).1,d:=(lflush F.S.l F.S.d).2.1 } }
theorem flush_ok {N m:Nat}{ch:Int→List Int}{kp:Int→Int}{F:FS}(h:FOk N m ch kp F) :
    (lflush F.S.l F.S.d).2.2=none∧(lflush F.S.l F.S.d).1={ F.S.l with done:=F.S.l.l.length }∧FOk N m ch kp (flushF F)∧PgTo F.P F.S (flushF F).S:=by
  obtain⟨d',e1,e2,e3⟩:=pg_log h.g.pg
  have hd:=h.g.pg.done
  have hlo:=lflush_tight h.g.pg.good (by have:=h.g.lok.first;omega) h.g.pg.size h.g.loose
  have hS:(flushF F).S={ F.S with l:={ F.S.l with done:=F.S.l.l.length },d:=d' }:=by unfold flushF;rw[e1]
  have hF:flushF F={ F with S:={ F.S with l:={ F.S.l with done:=F.S.l.l.length },d:=d' } }:=by unfold flushF;rw[e1]
  have hto:PgTo F.P F.S { F.S with l:={ F.S.l with done:=F.S.l.l.length },d:=d' }:=⟨e3,rfl,⟨F.S.l.l.length,rfl,hd⟩,fun _ h=>h⟩
  rw[hF]
  refine⟨by rw[e1],by rw[e1],h.to e2 hto ?_ ?_ ?_,hto⟩
  · have:=e2.good.fuse
    unfold FuseOk
    show -1≤d'.fuse∧d'.fuse≤_
    have h2:d'.fuse = -1:=this
    rw[h2];omega
  · rw[e1] at hlo;exact hlo
  · have ho:=h.g.lok
    exact⟨ho.first,ho.blocks,ho.base,ho.epoch,ho.len,ho.last,Nat.le_refl _,ho.recs⟩
theorem sum_ge {f:Tx→Int} : ∀{l:List Tx} {x:Tx},x∈l→(∀y∈l,0≤f y)→f x≤(l.map f).sum
  | [],x,hx,_=>(List.not_mem_nil hx).elim
  | y :: l,x,hx,hf=>by
    have hn : ∀z:List Tx,(∀y∈z,0≤f y)→0≤(z.map f).sum:=fun z=>by
      induction z with
      | nil=>intro _;simp
      | cons a aa ih=>
        intro h
        have h1:=h a List.mem_cons_self
        have h2:=ih fun y hy=>h y (List.mem_cons_of_mem _ hy)
        rw[List.map_cons,List.sum_cons]
        omega
    rw[List.map_cons,List.sum_cons]
    rcases List.mem_cons.1 hx with rfl | hx
    · have:=hn l fun z hz=>hf z (List.mem_cons_of_mem _ hz)
      omega
    · have h1:=sum_ge hx fun z hz=>hf z (List.mem_cons_of_mem _ hz)
      have h2:=hf y List.mem_cons_self
      omega
theorem kept_ge {N m:Nat}{ch:Int→List Int}{kp:Int→Int}{F:FS}{id:Int}(h:FOk N m ch kp F)(hid:thas F.ts id=true)(hpos : ∀x,0≤kp x):kp id+((ch id).length:Int)≤F.kept:=by
  obtain⟨hx,hxid⟩:=tget_mem hid
  have:=sum_ge (f:=fun x=>kp x.id+((ch x.id).length:Int)) hx fun y _=>by have:=hpos y.id;show 0≤kp y.id+((ch y.id).length:Int);omega
  rw[←h.c.kept] at this
  rw[hxid] at this
  exact this
def commitF (F:FS)(n id:Int)(k:Int):FS:=endF (flushF (markF F id 4 1)) n id k
structure CommitOk (N m:Nat) (ch:Int→List Int) (kp:Int→Int) (F:FS) (n id:Int):Prop where
  kept:1≤F.kept
  room:1≤F.S.l.room
  rec4:recOk (recMark (tget F.ts id) 4)=true
  chain:Chain F.S.l (tget F.ts id).next (ch id)
  few:(ch id).length≤100000
  rise1:Rising (kvT (tnote F.ts id (F.S.l.last+1) (tget F.ts id).next))
  has1:thas (tnote F.ts id (F.S.l.last+1) (tget F.ts id).next) id=true
  ok1:FOk N m ch (updk kp id 1) (markF F id 4 1)
  fine:(lflush (markF F id 4 1).S.l (markF F id 4 1).S.d).2.2=none
  done:(lflush (markF F id 4 1).S.l (markF F id 4 1).S.d).1={ (markF F id 4 1).S.l with done:=(markF F id 4 1).S.l.l.length }
  ok2:FOk N m ch (updk kp id 1) (flushF (markF F id 4 1))
  has2:thas (flushF (markF F id 4 1)).ts id=true
  rec6:recOk (recMark (tget (flushF (markF F id 4 1)).ts id) 6)=true
  kept2:1+((ch id).length:Int)≤(flushF (markF F id 4 1)).kept
  room2:1≤(flushF (markF F id 4 1)).S.l.room
  ok3:FOk N m ch (updk kp id 1) (commitF F n id ((ch id).length:Int))
theorem commit_ok {N m:Nat}{ch:Int→List Int}{kp:Int→Int}{F:FS}{n id:Int}(h:FOk N m ch kp F)(hid:thas F.ts id=true)(hof:F.of n=id)(hkp:kp id=2)(hpos : ∀x,0≤kp x):CommitOk N m ch kp F n id:=by
  obtain⟨ro1,ro2,ro3⟩:=h.g.room
  have hk:=kept_ge h hid hpos
  rw[hkp] at hk
  have hroom:1≤F.S.l.room:=by omega
  obtain⟨hx,hxid⟩:=tget_mem hid
  obtain⟨la,lb,lc⟩:=h.c.last _ hx
  rw[hxid] at la
  have hnext:=h.c.next _ hx
  rw[hxid] at hnext
  obtain⟨m1,m2⟩:=mark_ok (kind:=4) (st:=1) h hid (.inl rfl) hkp hroom (by omega)
  obtain⟨f1,f2,f3,f4⟩:=flush_ok m2
  have hpos2 : ∀x,0≤updk kp id 1 x:=fun x=>by
    unfold updk
    by_cases e:x=id
    · rw[if_pos e];omega
    · rw[if_neg e];exact hpos x
  have hr1:=tnote_rise (id:=id) (l:=F.S.l.last+1) (n:=(tget F.ts id).next) h.t.rise
  have hh1:thas (tnote F.ts id (F.S.l.last+1) (tget F.ts id).next) id=true:=by
    rw[thas_ids hr1,ids_tnote,←thas_ids h.t.rise];exact hid
  have hh2:thas (flushF (markF F id 4 1)).ts id=true:=by
    show thas (tstate (tnote F.ts id (F.S.l.last+1) (tget F.ts id).next) id 1) id=true
    rw[thas_ids (tstate_rise hr1),ids_tstate,←thas_ids hr1];exact hh1
  obtain⟨e1,e2,e3,e4⟩:=end_ok (n:=n) f3 hh2 hof (by unfold updk;rw[if_pos rfl]) hpos2
  have hb:=h.g.lok.blocks
  have hrm:F.S.l.room≤F.S.l.blocks*6:=by unfold Lg.room;omega
  exact⟨by omega,hroom,m1,la.of_norm (by rw[hnext];exact la.norm.head),by omega,hr1,hh1,m2,f1,f2,f3,hh2,e1,e2,e3,e4⟩
end Go.Proofs.YtaplpeoikebedaaGreatDoor.StoreK
namespace Go.Proofs.YtaplpeoikebedaaGreatDoor.BackA
open Go.RowKit See Mem RecD Dirty Wal WalF PoolG PoolS SysD SysM FlushG Pager StoreD PageM StoreF StoreG StoreH StoreI StoreJ StoreK BackD BackL FwdL
end Go.Proofs.YtaplpeoikebedaaGreatDoor.BackA
namespace Go.Proofs.YtaplpeoikebedaaGreatDoor.TwiceD
open Go.RowKit See Mem Page PageB PageR PageL Disk DiskW RecD Dirty Wal WalF PoolG PoolS SysD SysM Fresh FlushG Pager StoreD PageM StoreF StoreG StoreH StoreI StoreJ StoreK StoreV StoreW LockT LockU BackD BackL BackA
theorem more_le (F:FS)(key:Int):(moreL F key).length≤F.ks.length:=by
  unfold moreL heldL
  refine Nat.le_trans (List.length_filter_le _ _) ?_
  rw[List.length_map]
  exact List.length_filter_le _ _
end Go.Proofs.YtaplpeoikebedaaGreatDoor.TwiceD
namespace Go.Proofs.YtaplpeoikebedaaGreatDoor.RecsD
open Go.RowKit See Mem Page PageB PageR PageL Disk DiskW RecD Dirty Dirty2 SysD SysM Wal WalF GoodD PoolG PoolS FlushG Fresh DirtD TabL Pager StoreD PageM StoreF StoreG StoreH TransT LockT LockU StoreI StoreJ StoreK RoomD
end Go.Proofs.YtaplpeoikebedaaGreatDoor.RecsD
namespace Go.Proofs.YtaplpeoikebedaaGreatDoor.ValD
open Go.RowKit See Mem Page PageB PageR PageL Disk DiskW RecD Dirty Dirty2 Wal WalF PoolG PoolS SysD SysM Fresh FlushG TabL Pager StoreD PageM StoreF StoreG StoreH StoreI StoreJ StoreV StoreW LockT LockU BackD BackL BackA
def PgK (F:FS):Prop := ∀p,1≤p→p≤F.P→∀e∈(cur F.S p).2,placeOf e.1 F.P=p
theorem pgk_takes {N m:Nat}{ch:Int→List Int}{kp:Int→Int}{F:FS}(h:FOk N m ch kp F)(hk:PgK F)(n key md hint:Int):PgK (takesF F n key md hint):=by
  obtain⟨p1,p2⟩:=placeOf_in key h.g.pg.pages
  obtain⟨S',e1,e2,e3,e4⟩:=get_ok h hint p1 p2
  have hF:(takesF F n key md hint).S=S':=by unfold takesF;rw[e1]
  intro p a b e he
  rw[hF,e3.cur p a b] at he
  exact hk p a b e he
theorem redo_mem {es:List (Int×Int)}{r:RecV}(hr:Rising es){e:Int×Int}(he:e∈redoE es r):e.1=r.key∨e∈es:=by
  unfold redoE at he
  split at he
  · rcases (mem_put hr e).1 he with rfl | ⟨h,_⟩
    · exact .inl rfl
    · exact .inr h
  · exact .inr ((mem_drop hr e).1 he).1
theorem set_cur {N m:Nat}{F:FS}{id key:Int}{had has:Bool}{old new:Int}{f:Fp}(hg:GOk N m F)(hf:findP F.S.here (placeOf key F.P)=some f)(hr:recOk (recSet (tget F.ts id) F.P key had old has new)=true)(h6:is64 old∧is64 new)(hk:0≤key∧key<1048576)(hl:(redoE (cur F.S (placeOf key F.P)).2 (recSet (tget F.ts id) F.P key had old has new)).length≤20)(hfr:2≤F.free) :
    ∀j,cur (setF F id key had old has new).S j=if j=placeOf key F.P then (F.S.l.last+1,redoE (cur F.S (placeOf key F.P)).2 (recSet (tget F.ts id) F.P key had old has new)) else cur F.S j:=by
  obtain⟨ro1,ro2,ro3⟩:=hg.room
  obtain⟨c1,c2,c3,c4,c5⟩:=chg_ok (r:=recSet (tget F.ts id) F.P key had old has new) (fr:=F.free - 2) (kp:=F.kept+1) hg hf hr h6 hk (by omega) hl (by omega) (by omega) (by omega)
  exact fun j=>c4 j
theorem pgk_set {N m:Nat}{F:FS}{id key:Int}{had has:Bool}{old new:Int}{f:Fp}(hg:GOk N m F)(hK:PgK F)(hf:findP F.S.here (placeOf key F.P)=some f)(hr:recOk (recSet (tget F.ts id) F.P key had old has new)=true)(h6:is64 old∧is64 new)(hk:0≤key∧key<1048576)(hl:(redoE (cur F.S (placeOf key F.P)).2 (recSet (tget F.ts id) F.P key had old has new)).length≤20)(hfr:2≤F.free):PgK (setF F id key had old has new):=by
  have hs:=set_cur hg hf hr h6 hk hl hfr
  obtain⟨p1,p2⟩:=placeOf_in key hg.pg.pages
  intro p a b e he
  rw[hs p] at he
  by_cases e2:p=placeOf key F.P
  · rw[if_pos e2] at he
    rcases redo_mem (PageV.rise (hg.pg.curV p1 p2)) he with h | h
    · rw[h];exact e2.symm
    · rw[←e2] at h
      exact hK p a b e h
  · rw[if_neg e2] at he
    exact hK p a b e he
theorem old64 {N m:Nat}{ch:Int→List Int}{kp:Int→Int}{F:FS}(h:FOk N m ch kp F)(key:Int):is64 ((vals F key).getD 0):=by
  obtain⟨p1,p2⟩:=placeOf_in key h.g.pg.pages
  have hpv:=h.g.pg.curV p1 p2
  have hrise:=PageV.rise hpv
  unfold vals
  cases hx:val (cur F.S (placeOf key F.P)).2 key with
  | none=>unfold is64;simp
  | some x=>
    have:=(val_some hrise key x).1 hx
    exact hpv.2 _ this
theorem pgk_put {N m:Nat}{ch:Int→List Int}{kp:Int→Int}{F F':FS}{own:Int→Int}{n key v hint:Int}{q:Int×Bool×Option Nat}(h:FOk N m ch kp F)(hK:PgK F)(hk:KOk own F.ks)(he:own key=n)(hid:thas F.ts (F.of n)=true)(hkey:0≤key∧key<1048576)(hv:is64 v)(hfr:2≤F.free)(hnf:(vals F key).isSome=true∨fullB (takesF F n key 2 hint) key=false)(hR:putR F n key v hint=(F',q)):PgK F':=by
  obtain⟨t1,t2,t3,t4,t5,t6,t7,t8,t9⟩:=takes_ok h hk he hkey hint
  obtain⟨p1,p2⟩:=placeOf_in key h.g.pg.pages
  have hcur:=t5 _ p1 p2
  obtain⟨v1,v2⟩:=page_vals h key
  obtain⟨x,x1,x2,x3,x4⟩:=t8
  have hP:(takesF F n key 2 hint).P=F.P:=rfl
  have hp:=put_ok (F:=takesF F n key 2 hint) (id:=F.of n) (key:=key) (v:=v) t2 hid t6 hkey hv ⟨x,x1,x2,x3,by rw[x4];rfl⟩ (by show 2≤F.free;omega) (by
    rw[hP,hcur,v1]
    exact hnf)
  rw[hP,hcur,v1,v2] at hp
  obtain⟨_,h2,h3,h4,h5⟩:=hp
  unfold putR at hR
  rw[v1,v2,if_neg (by
    rintro⟨c1,c2⟩
    rcases hnf with h | h
    · rw[h] at c1;cases c1
    · rw[h] at c2;cases c2),if_neg (by omega)] at hR
  simp only[Prod.mk.injEq] at hR
  obtain⟨rfl,_⟩:=hR
  refine pgk_set t2.g (pgk_takes h hK n key 2 hint) t6 (by rw[hP];exact h2) ⟨old64 h key,hv⟩ hkey (by rw[hP,hcur];exact h3) (by show 2≤F.free;omega)
def tab (hs:Int→Bool)(vl:Int→Int)(j:Int):Option Int:=if hs j then some (vl j) else none
structure VSt (N i:Nat) (ch:Int→List Int) (hs:Int→Bool) (vl:Int→Int) (F:FS):Prop where
  ok:FOk N i ch (fun _=>2) F
  kok:KOk (fun _=>0) F.ks
  kl:F.ks.length≤i
  kr : ∀x∈F.ks,x.key<30
  same:F.P=8∧F.sess=1∧F.most=1∧F.of 0=1∧F.S.frames=2
  free:237 - 2*(i:Int)≤F.free
  has_:thas F.ts 1=true
  val_ : ∀j,vals F j=tab hs vl j
  rng : ∀j,hs j=true→0≤j∧j<30
  keys:PgK F
  len:(ch 1).length≤i
  all : ∀j,rewV F.S.l (ch 1) (vals F) j=none
theorem VSt.recs {N i:Nat}{ch:Int→List Int}{hs:Int→Bool}{vl:Int→Int}{F:FS}(h:VSt N i ch hs vl F) : ∀k∈ch 1,∃r,recOf F.S.l k=some r:=fun k hk=>by
  obtain⟨hx,hxid⟩:=tget_mem h.has_
  obtain⟨_,r,hr,_⟩:=(h.ok.c.last _ hx).1.at_ k (by rw[hxid];exact hk)
  exact⟨r,hr⟩
theorem VSt.tx {N i:Nat}{ch:Int→List Int}{hs:Int→Bool}{vl:Int→Int}{F:FS}(h:VSt N i ch hs vl F):(tget F.ts 1).id=1∧(tget F.ts 1).next=(ch 1).headD 0:=by
  obtain⟨hx,hid⟩:=tget_mem h.has_
  refine⟨hid,?_⟩
  rw[h.ok.c.next _ hx,hid]
structure RSt (N m:Nat) (f:Int→Option Int) (F:FS):Prop where
  ok : ∃ch kp,FOk N m ch kp F
  own : ∀x∈F.ks,x.s=0
  kl:F.ks.length≤m
  sess:F.sess=1
  has_:thas F.ts (F.of 0)=true
  val_ : ∀j,vals F j=f j
theorem r_get {N m:Nat}{f:Int→Option Int}{F:FS}(h:RSt N m f F)(key hint:Int) :
    RSt N (m+1) f (takesF F 0 key 1 hint)∧whoL F.ks 0 key 1=[]∧has (cur F.S (placeOf key F.P)).2 key=(f key).isSome∧fromOf (cur F.S (placeOf key F.P)).2 key=(f key).getD 0:=by
  obtain⟨ch,kp,hok⟩:=h.ok
  obtain⟨r1,r2,r3,r4,r5,r6,r7⟩:=read_ok hok 0 key hint
  refine⟨⟨⟨ch,kp,r1⟩,s_takeL h.own,?_,h.sess,h.has_,fun j=>(r2 j).trans (h.val_ j)⟩,who_one h.own key 1,by rw[r6,h.val_],by rw[r7,h.val_]⟩
  have h4:(takesF F 0 key 1 hint).ks.length≤F.ks.length+1:=len_takeL _ _ _ _
  have:=h.kl
  omega
end Go.Proofs.YtaplpeoikebedaaGreatDoor.ValD
