/- Joined texts: FwdF, FwdU, FwdV. No condition but what each says. -/
import Derived.Test.YtaplpeoikebedaaGreatDoorX29
import Derived.Test.YtaplpeoikebedaaGreatDoorX37
import Derived.Test.YtaplpeoikebedaaGreatDoorX30
import Derived.Test.YtaplpeoikebedaaGreatDoorX33
import Derived.Test.YtaplpeoikebedaaGreatDoorX28
import Derived.Test.YtaplpeoikebedaaGreatDoorX18
import Derived.Deep.DeepCutAuto
import Derived.BigQuiet
set_option maxHeartbeats 8000000
set_option maxRecDepth 100000
set_option linter.unusedVariables false
set_option linter.unusedSimpArgs false
namespace Go.Proofs.YtaplpeoikebedaaGreatDoor.FwdF
open Go.RowKit Go.Maps YtaplpeoikebedaaGreatDoorW.PrintWords YtaplpeoikebedaaGreatDoorW.PrintLast YtaplpeoikebedaaGreatDoorW.PrintMore
open See Mem Page Dirty SysD SysM SortI StoreD StoreF PageO LockT LockU HeldT FwdM FwdP
attribute [local go_sem] max2_imax min2_imin max_two min_two
theorem place_at (key P q:Int)(h0:0≤key)(h1:key<1048576)(h2:1≤P)(h3:P≤1000)(hq:placeOf key P=q)(w:World) :
    Calls Tryz.prog 125 #[.int .i64 key,.int .i64 P] w fun e w'=>e = .returned (.int .i64 q)∧w=w':=by
  subst hq;exact place_calls key P h0 h1 h2 h3 w
theorem nr_at {w:World}{A:Option Addr}{n cap:Nat}{xs:List Int}(h:NR w (.slice A n cap) xs){i:Nat}{x:Int}(hi:xs[i]? = some x) : ∃ad,A=some ad∧w.cell? (ad.add i)=some (.int .i64 x):=by
  obtain⟨A',c',hv,h0,h1⟩:=h.form
  injection hv with e1 e2 e3
  subst e1
  cases A with
  | none=>
    have:=(h0 rfl).1
    have hlt:i<xs.length:=(List.getElem?_eq_some_iff.1 hi).1
    omega
  | some ad=>exact⟨ad,rfl,(h1 ad rfl).1 i _ (by rw[List.getElem?_map,hi];rfl)⟩
def moreB (es:List (Int×Int))(P key k:Int):Bool := !(has es k) && (k != key && placeOf k P == placeOf key P)
def cntB (es:List (Int×Int))(P key:Int)(q:List Int)(i:Nat):Int:=((q.take i).filter (moreB es P key)).length
theorem cntB_succ (es:List (Int×Int))(P key:Int){q:List Int}{i:Nat}{k:Int}(h:q[i]? = some k):cntB es P key q (i+1)=cntB es P key q i+(if moreB es P key k then 1 else 0):=by
  obtain⟨h1,h2⟩:=List.getElem?_eq_some_iff.1 h
  unfold cntB
  rw[List.take_succ_eq_append_getElem h1,List.filter_append,List.length_append,h2]
  by_cases e:moreB es P key k=true
  · simp[e]
  · simp[e]
theorem cntB_le (es:List (Int×Int))(P key:Int)(q:List Int)(i:Nat):0≤cntB es P key q i∧cntB es P key q i≤q.length:=by
  unfold cntB
  have:=List.length_filter_le (moreB es P key) (q.take i)
  rw[List.length_take] at this
  omega
theorem cntB_all (es:List (Int×Int))(P key:Int)(ls:List Int):cntB es P key (sortI ls) (sortI ls).length=((ls.filter (moreB es P key)).length:Int):=by
  unfold cntB
  rw[List.take_length]
  have:=((List.mergeSort_perm ls fun x y=>decide (x≤y)).filter (moreB es P key)).length_eq
  unfold sortI
  rw[this]
theorem full_calls (M:Nat→Prop)(sp lp pp dp qp mp:Nat)(blocks frames:Int)(F:FS)(l0:Int)(v:Value)(es:List (Int×Int))(key:Int)(w:World)(h:FwM M w sp lp pp dp qp mp blocks frames F)(hp:P2 w 169 v es)(hr:Rising es)
    (hP1:1≤F.P) (hP2:F.P≤1000) (hk0:0≤key) (hk1:key<1048576) (hd:(heldL F.ks).Nodup) (hrng : ∀k∈heldL F.ks,0≤k∧k<1048576) (hes:es.length≤1000) :
    Calls Tryz.prog 71 #[.pointer (some ⟨sp,0,none⟩),.agg #[.int .i64 l0,v],.int .i64 key] w fun e w'=>
      e = .returned (.bool (decide ((20:Int)≤es.length+(((heldL F.ks).filter (moreB es F.P key)).length:Int))))∧Below w.heap.size w w':=by
  obtain⟨c0,_,_,_,_,_,_,_⟩:=h.cells
  obtain⟨kv,tv,b1,b2,_⟩:=h.box
  have HH:=Aside0.mk (fun (W:World) (hb:Below w.heap.size w W)=>held_calls sp 6 kv F.ks W (b2.below hb) (pw_cell_below hb (show w.cell? ⟨sp,6,none⟩=some kv by simp[World.cell?,b1,fwCells])) hd)
  have HPP:=Aside0.mk hp
  have HRR:=Aside0.mk hr
  have HC0:=Aside0.mk (fun (W:World) (hb:Below w.heap.size w W)=>pw_cell_below hb c0)
  obtain⟨q,hq⟩ : ∃q,sortI (heldL F.ks)=q:=⟨_,rfl⟩
  obtain⟨P,hPP⟩ : ∃P,F.P=P:=⟨_,rfl⟩
  obtain⟨el,hel⟩ : ∃el,es.length=el:=⟨_,rfl⟩
  have HALL:=Aside0.mk (show cntB es P key q q.length=(((heldL F.ks).filter (moreB es P key)).length:Int) by rw[←hq];exact cntB_all _ _ _ _)
  have HRNG:=Aside0.mk (show ∀k∈q,0≤k∧k<1048576 from fun k hk=>by
    rw[←hq] at hk
    unfold sortI at hk
    exact hrng k (List.mem_mergeSort.1 hk))
  have hql:q.length≤100000:=by rw[←hq,sortI_len];have:=heldL_len F.ks;have:=b2.2;omega
  rw[hq] at HH
  rw[hPP] at hP1 hP2 HC0 ⊢
  rw[hel] at hes ⊢
  have HEL:=Aside0.mk hel
  obtain⟨A,cap,rfl,_⟩:=ow_slice hp.1
  have hspl:=heap_lt b1
  rw[hel]
  clear h hp hr b1 b2 hd hrng hq hPP hel c0
  go_enter Tryz.func71,Tryz.ntmps71
  go_wp2_with fail
  refine (HH.out _ (by repeat (first | exact Below.refl _ _ | apply below_drew1 | apply below_alloc))).mono ?_
  rintro e w1 ⟨v1,rfl,hr1,hb1⟩
  obtain⟨A1,c1,rfl,_⟩:=hr1.form
  have HB4:=Aside0.mk (show w1.heap[w.heap.size]? = some (.cells #[.int .i64 l0,.slice A el cap] 74 (0,0)) from (hb1.block w.heap.size (by show _<(w.heap.push _).size;rw[Array.size_push];omega)).trans (heap_alloc_new w _))
  have HB1:=Aside0.mk (below_step (below_alloc (Below.refl w.heap.size w) _) hb1)
  have HR1:=Aside0.mk hr1
  obtain⟨n,hn⟩ : ∃n,q.length=n:=⟨_,rfl⟩
  have HN:=Aside0.mk hn
  rw[hn] at hql
  rw[hn]
  clear hb1 hr1 hn
  go_wp2_with fail
  go_loopg [7,20] (n+1) (fun kq v7 v20 w' => ∃(i c:Int),v7 = .int .i64 c∧v20 = .int .i64 i∧Aside0 (0≤i∧i≤n∧(kq:Int)=n+1 - i)∧Aside0 (c=el+cntB es P key q i.toNat)∧Aside0 (Below w1.heap.size w1 w'))
  case atStart=>exact⟨0,_,rfl,rfl,⟨by omega,by omega,by omega⟩,⟨by unfold cntB;simp⟩,⟨Below.refl _ _⟩⟩
  case round=>
    obtain⟨i,c,rfl,rfl,HI,HC,HB⟩:=hrel
    have hi0:0≤i:=HI.out.1
    have hcb:0≤c∧c≤200000:=by have:=HC.out;have:=cntB_le es P key q i.toNat;have:=HN.out;omega
    obtain⟨hcb0,hcb1⟩:=hcb
    by_cases hlt:i<n
    · obtain⟨k,hk⟩ : ∃k,q[i.toNat]? = some k:=⟨_,List.getElem?_eq_getElem (by have:=HN.out;omega)⟩
      obtain⟨ad,rfl,hck⟩:=nr_at (HR1.out.below HB.out) hk
      have HCS:=Aside0.mk (cntB_succ es P key hk)
      obtain⟨k0,k1⟩:=HRNG.out k (List.mem_of_getElem? hk)
      have hbb:wr.heap[w.heap.size]? = some (.cells #[.int .i64 l0,.slice A el cap] 74 (0,0)):=(HB.out.block _ (heap_lt HB4.out)).trans HB4.out
      have y0:wr.cell? ⟨w.heap.size,0,none⟩=some (.int .i64 l0):=by simp[World.cell?,hbb]
      have y1:wr.cell? ⟨w.heap.size,1,none⟩=some (.slice A el cap):=by simp[World.cell?,hbb]
      have HBW:=Aside0.mk (below_step HB1.out HB.out)
      have HEG:=Aside0.mk (by have:=eget_calls l0 (.slice A el cap) es k wr (by have:=HPP.out.below HBW.out;rw[HEL.out] at this;exact this) HRR.out;exact this)
      clear hbb hk
      go_wp2_with fail
      refine HEG.out.mono ?_
      rintro e w2 ⟨rfl,hb2⟩
      have HB2:=Aside0.mk (below_step HB.out hb2)
      have z0:=HC0.out w2 (below_step HBW.out hb2)
      obtain⟨b,hb⟩ : ∃b,has es k=b:=⟨_,rfl⟩
      rw[hb]
      have HHB:=Aside0.mk hb
      clear hb2 hck y0 y1 hb
      obtain⟨pk,hpk⟩ : ∃pk,placeOf k P=pk:=⟨_,rfl⟩
      obtain⟨pq,hpq⟩ : ∃pq,placeOf key P=pq:=⟨_,rfl⟩
      have HPK:=Aside0.mk hpk
      have HPQ:=Aside0.mk hpq
      clear hpk hpq
      cases b with
      | true=>
        have HNO:=Aside0.mk (show moreB es P key k=false by unfold moreB;rw[HHB.out];rfl)
        go_wp2_with fail
        go_quiet (fail)
        have HBQ:=Aside0.mk (pw_below_drewN HB2.out nq)
        go_wp2_with fail
        go_roundg (gk - 1)
        case measure=>have:=HI.out;omega
        case rel=>exact⟨i+1,c,rfl,rfl,⟨by omega,by omega,by have:=HI.out;omega⟩,⟨by rw[show (i+1).toNat=i.toNat+1 from by omega,HCS.out,HNO.out];simp;exact HC.out⟩,HBQ⟩
      | false=>
        by_cases hkk:k=key
        · have hne:(k != key)=false:=by simp[hkk]
          have HNO:=Aside0.mk (show moreB es P key k=false by unfold moreB;rw[HHB.out,hne];rfl)
          go_wp2_with fail
          go_quiet (fail)
          have HBQ:=Aside0.mk (pw_below_drewN HB2.out nq)
          go_wp2_with fail
          go_roundg (gk - 1)
          case measure=>have:=HI.out;omega
          case rel=>exact⟨i+1,c,rfl,rfl,⟨by omega,by omega,by have:=HI.out;omega⟩,⟨by rw[show (i+1).toNat=i.toNat+1 from by omega,HCS.out,HNO.out];simp;exact HC.out⟩,HBQ⟩
        · have hne:(k != key)=true:=by simp[hkk]
          have HPC:=Aside0.mk (fun (V:World)=>(place_at k P pk k0 k1 hP1 hP2 HPK.out V).mono fun e w' h=>(⟨h.1,h.2.symm⟩:e = .returned (.int .i64 pk)∧w'=V))
          have HPD:=Aside0.mk (fun (V:World)=>(place_at key P pq hk0 hk1 hP1 hP2 HPQ.out V).mono fun e w' h=>(⟨h.1,h.2.symm⟩:e = .returned (.int .i64 pq)∧w'=V))
          by_cases hpe:pk=pq
          · have hpe':(pk == pq)=true:=by simp[hpe]
            have HNO:=Aside0.mk (show moreB es P key k=true by unfold moreB;rw[HHB.out,hne,HPK.out,HPQ.out,hpe'];rfl)
            have hwc:IntKind.i64.wrap (c+1)=c+1:=by rw[IntKind.wrap_i64];omega
            go_wp2_with fail
            go_quiet (first | (go_at_call_of 125 (Value.int .i64 k);refine Calls.quiet_of_same (HPC.out _)) | (go_at_call_of 125 (Value.int .i64 key);refine Calls.quiet_of_same (HPD.out _)))
            have HBQ:=Aside0.mk (pw_below_drewN HB2.out nq)
            go_wp2_with fail
            go_roundg (gk - 1)
            case measure=>have:=HI.out;omega
            case rel=>exact⟨i+1,c+1,rfl,rfl,⟨by omega,by omega,by have:=HI.out;omega⟩,⟨by rw[show (i+1).toNat=i.toNat+1 from by omega,HCS.out,HNO.out];simp;have:=HC.out;omega⟩,HBQ⟩
          · have hpe':(pk == pq)=false:=by simp[hpe]
            have HNO:=Aside0.mk (show moreB es P key k=false by unfold moreB;rw[HHB.out,hne,HPK.out,HPQ.out,hpe'];rfl)
            go_wp2_with fail
            go_quiet (first | (go_at_call_of 125 (Value.int .i64 k);refine Calls.quiet_of_same (HPC.out _)) | (go_at_call_of 125 (Value.int .i64 key);refine Calls.quiet_of_same (HPD.out _)))
            have HBQ:=Aside0.mk (pw_below_drewN HB2.out nq)
            go_wp2_with fail
            go_roundg (gk - 1)
            case measure=>have:=HI.out;omega
            case rel=>exact⟨i+1,c,rfl,rfl,⟨by omega,by omega,by have:=HI.out;omega⟩,⟨by rw[show (i+1).toNat=i.toNat+1 from by omega,HCS.out,HNO.out];simp;exact HC.out⟩,HBQ⟩
    · have HE:=Aside0.mk (show c=el+(((heldL F.ks).filter (moreB es P key)).length:Int) by rw[←HALL.out,HC.out,show i.toNat=q.length from by have:=HI.out;have:=HN.out;omega])
      go_wp2_with fail
      refine bodyPost_ret (v:=.bool (decide ((20:Int)≤c))) (by simp[results,Tryz.results71,go_sem]) rfl ⟨by rw[HE.out],below_step HB1.out HB.out⟩
end Go.Proofs.YtaplpeoikebedaaGreatDoor.FwdF
namespace Go.Proofs.YtaplpeoikebedaaGreatDoor.FwdU
open Go.RowKit Go.Maps YtaplpeoikebedaaGreatDoorW.PrintWords YtaplpeoikebedaaGreatDoorW.PrintLast YtaplpeoikebedaaGreatDoorW.PrintMore
open See Mem Page PageB PageR PageL Disk DiskN DiskW RecD Rec Dirty Wal WalF SysD SysM PoolG Pager StoreD PageM StoreF StoreG StoreI StoreJ PageO HeldT TransT LockT LockU SpaceT WaitT FwdM FwdP FwdC FwdF FwdT FwdB FwdS
attribute [local go_sem] max2_imax min2_imin max_two min_two
def PutPost (a:Nat→Addr)(M:Nat→Prop)(sp lp pp dp qp mp:Nat)(blocks frames:Int)(R:FS×Int×Bool×Option Nat)(w:World)(e:Ending)(w':World):Prop:=
  e = .returned (.tuple #[.int .i64 R.2.1,.bool R.2.2.1,errv a R.2.2.2])∧FwPost M sp lp pp dp qp mp blocks frames R.1 w w'
theorem put_calls (a:Nat→Addr)(M:Nat→Prop)(sp lp pp dp qp mp:Nat)(blocks frames:Int)(F:FS)(n key v hint:Int)(N m:Nat)(ch:Int→List Int)(kp:Int→Int)(own:Int→Int)(w:World)(h:FwM M w sp lp pp dp qp mp blocks frames F)(hok:FOk N m ch kp F)(hk:KOk own F.ks)(he:own key=n)(hs:SentsAll w a)(hO:OutAll M a)(h0:0≤n)(h1:n<F.sess)(h2:F.sess≤1000)
    (hx:thas F.ts (F.of n)=true) (hk0:0≤key) (hk1:key<1048576) (hl:F.ks.length≤80000) (hm:m≤30000) (hh0 : -9223372036854775808≤hint) (hh1:hint≤9223372036854775807) (hv:is64 v) :
    Calls Tryz.prog 22 #[.pointer (some ⟨sp,0,none⟩),.int .i64 n,.int .i64 key,.int .i64 v,.int .i64 hint] w (PutPost a M sp lp pp dp qp mp blocks frames (putR F n key v hint) w):=by
  have HT:=Aside0.mk (takes_calls a M sp lp pp dp qp mp blocks frames F n key hint N m ch kp own w h hok hk he hs hO h0 h1 h2 hx hk0 hk1 hl hm hh0 hh1)
  have HS:=Aside0.mk hs
  have HO:=Aside0.mk hO
  have HOK:=Aside0.mk hok
  have HK:=Aside0.mk hk
  have HE:=Aside0.mk he
  have HX:=Aside0.mk hx
  have HV:=Aside0.mk hv
  have HTK:=Aside0.mk (takes_ok hok hk he ⟨hk0,hk1⟩ hint)
  obtain⟨x,hxx⟩ : ∃x,tget F.ts (F.of n)=x:=⟨_,rfl⟩
  obtain⟨l0,hl0⟩ : ∃l0,(cur F.S (placeOf key F.P)).1=l0:=⟨_,rfl⟩
  obtain⟨es,hes⟩ : ∃es,(cur F.S (placeOf key F.P)).2=es:=⟨_,rfl⟩
  have HXX:=Aside0.mk (And.intro hxx (And.intro hl0 hes))
  unfold TakesPost at HT
  rw[hxx,hl0,hes] at HT
  obtain⟨xi,xs,xl,xn⟩:=x
  simp only[txV] at HT
  clear h hok hk he hs hO hl hm hx hxx h0 h1 h2 hh0 hh1 hv hl0 hes
  go_enter Tryz.func22,Tryz.ntmps22
  go_wp2_with fail
  refine HT.out.mono ?_
  rintro e w1 ⟨sl,rfl,hp,hpost⟩
  obtain⟨A,c,rfl,_⟩:=ow_slice hp.1
  obtain⟨el,hel⟩ : ∃el,es.length=el:=⟨_,rfl⟩
  have HEL:=Aside0.mk hel
  rw[hel] at hp ⊢
  have HP1:=Aside0.mk hp
  have HP:=Aside0.mk hpost
  clear hp hpost hel
  obtain⟨W,hW⟩ : ∃W,(w1.alloc (.cells #[.int .i64 xi,.int .i64 xs,.int .i64 xl,.int .i64 xn] 102)).alloc (.cells #[.int .i64 l0,.slice A el c] 74)=W:=⟨_,rfl⟩
  have HBW:=Aside0.mk (show Below w1.heap.size w1 W from by rw[←hW];repeat (first | exact Below.refl _ _ | apply below_alloc))
  obtain⟨bx,hbx⟩ : ∃bx,w1.heap.size=bx:=⟨_,rfl⟩
  obtain⟨bg,hbg⟩ : ∃bg,w1.heap.size+1=bg:=⟨_,rfl⟩
  have HXB:=Aside0.mk (show W.heap[bx]? = some (.cells #[.int .i64 xi,.int .i64 xs,.int .i64 xl,.int .i64 xn] 102 (0,0)) from by
    rw[←hW,←hbx]
    exact (Below.heap_alloc _ _ _ (by show _<(w1.heap.push _).size;rw[Array.size_push];omega)).trans (heap_alloc_new w1 _))
  have HGB:=Aside0.mk (show W.heap[bg]? = some (.cells #[.int .i64 l0,.slice A el c] 74 (0,0)) from by
    rw[←hW,←hbg]
    exact ChangeT.alloc_at _ _ (show (w1.alloc _).heap.size=w1.heap.size+1 from by show (w1.heap.push _).size=_;rw[Array.size_push]))
  have HWN:=Aside0.mk (And.intro hW (And.intro hbx hbg))
  clear hW hbx hbg
  go_upto_region 2 with fail
  rw[HWN.out.1,HWN.out.2.2,HWN.out.2.1]
  obtain⟨x0,x1,x2,x3,_,_,_,_⟩:=tx_cells HXB.out
  obtain⟨_,_,g0,g1⟩:=FwdT.pg_cells HGB.out
  have hbxl:=heap_lt HXB.out
  have hbgl:=heap_lt HGB.out
  have HFW:=Aside0.mk (HP.out.1.below HBW.out)
  have HPW:=Aside0.mk (HP1.out.below HBW.out)
  have HRISE:=Aside0.mk (show Rising es from by
    have hp2:=placeOf_in key HOK.out.g.pg.pages
    rw[←HXX.out.2.2]
    exact PageV.rise (HOK.out.g.pg.curV hp2.1 hp2.2))
  have HEG:=Aside0.mk (eget_calls l0 (.slice A el c) es key W HPW.out HRISE.out)
  go_wp2_with fail
  refine HEG.out.mono ?_
  rintro e w2 ⟨rfl,hb2⟩
  have HB2:=Aside0.mk (below_step HBW.out hb2)
  have HF2:=Aside0.mk (HFW.out.below hb2)
  have HP2:=Aside0.mk (HPW.out.below hb2)
  have HS2:=Aside0.mk (SentsAll.kp (SentsAll.kp HS.out HP.out.2 HO.out) (Kp.of_below (M:=fun _=>False) HB2.out) (fun _ _=>⟨id,id⟩))
  have HO2:=Aside0.mk (OutAll.gr (w':=w1) HO.out HS.out)
  have HX2:=Aside0.mk ((hb2.block _ (heap_lt HXB.out)).trans HXB.out)
  have HG2:=Aside0.mk ((hb2.block _ (heap_lt HGB.out)).trans HGB.out)
  clear hb2 x0 x1 x2 x3 g0 g1 hbxl hbgl
  obtain⟨had,hhad⟩ : ∃b,has es key=b:=⟨_,rfl⟩
  obtain⟨old,hold⟩ : ∃o,fromOf es key=o:=⟨_,rfl⟩
  have HHAD:=Aside0.mk (And.intro hhad hold)
  rw[hhad,hold]
  clear hhad hold
  have HSET:=Aside0.mk (show (had=true∨fullB (takesF F n key 2 hint) key=false)→∀(V:World),Below w2.heap.size w2 V→Calls Tryz.prog 72 #[.pointer (some ⟨sp,0,none⟩),.agg #[.int .i64 xi,.int .i64 xs,.int .i64 xl,.int .i64 xn],.agg #[.int .i64 l0,.slice A el c],.agg #[.int .i64 0,.int .i64 0,.int .i64 0,.int .i64 0,.int .i64 0,.int .i64 key,.bool had,.bool true,.int .i64 old,.int .i64 v]] V (fun e w'=>
      (F.free<2∧e = .returned (errv a (some 8))∧FwPost (Gr M w w1) sp lp pp dp qp mp blocks frames (takesF F n key 2 hint) V w')∨(¬F.free<2∧e = .returned .nilIface∧FwPost (Gr M w w1) sp lp pp dp qp mp blocks frames (setF (takesF F n key 2 hint) (F.of n) key had old true v) V w')) from fun hfl V hbl=>by
    obtain⟨t1,t2,t3,t4,t5,t6,t7,t8,t9⟩:=HTK.out
    obtain⟨p1,p2⟩:=placeOf_in key HOK.out.g.pg.pages
    have hcur:=t5 _ p1 p2
    have hP:(takesF F n key 2 hint).P=F.P:=rfl
    have htg:tget (takesF F n key 2 hint).ts (F.of n)=⟨xi,xs,xl,xn⟩:=HXX.out.1
    by_cases hfr:F.free<2
    · have:=set_low a (Gr M w w1) sp lp pp dp qp mp blocks frames (takesF F n key 2 hint) ⟨xi,xs,xl,xn⟩ l0 (.slice A el c) (rec0 key had old true v) V (HF2.out.below hbl) (HS2.out.below hbl) hfr ⟨A,el,c,rfl⟩
      exact this.mono fun e w' hh=>.inl ⟨hfr,hh.1,hh.2⟩
    · obtain⟨y,y1,y2,y3,y4⟩:=t8
      have hpo:=put_ok (F:=takesF F n key 2 hint) (id:=F.of n) (key:=key) (v:=v) t2 HX.out t6 ⟨hk0,hk1⟩ HV.out ⟨y,y1,y2,y3,by rw[y4];rfl⟩ (by show 2≤F.free;omega) (by
        rw[hP,hcur,HXX.out.2.2,HHAD.out.1]
        exact hfl)
      rw[hP,hcur,HXX.out.2.2,HHAD.out.1,HHAD.out.2] at hpo
      obtain⟨q1,q2,q3,_,_⟩:=hpo
      have hg:=t2.g
      obtain⟨r1,r2,r3⟩:=hg.room
      have hp32:=hg.p32
      have hpg:=hg.pg.pages
      have hl0:l0<(takesF F n key 2 hint).S.l.last+1:=by
        have:=hg.lsn (placeOf key F.P) p1 p2
        rw[hcur,HXX.out.2.1] at this
        omega
      have hroom:1≤(takesF F n key 2 hint).S.l.room:=by
        have:(takesF F n key 2 hint).free=F.free:=rfl
        omega
      have htf:=tab_few hg.pg
      have:=set_done a (Gr M w w1) sp lp pp dp qp mp blocks frames (takesF F n key 2 hint) (F.of n) l0 (.slice A el c) es key had old true v V (HF2.out.below hbl) (HS2.out.below hbl) HO2.out HX.out t2.t.rise (HP2.out.below hbl) HRISE.out hk0 hk1 hpg (by omega) (by show 2≤F.free;omega) ⟨(room_top hg).1,r2,(room_top hg).2⟩ q2 hroom hl0 (fun _=>by
        rcases hfl with h | h
        · exact .inl (by rw[HHAD.out.1];exact h)
        · unfold fullB at h
          rw[hP,hcur,HXX.out.2.2] at h
          have : ¬20≤es.length+(moreL (takesF F n key 2 hint) key).length:=by simpa using h
          exact .inr (by omega)) (by have:=hg.pg.frames;have:=HF2.out.sys.frames.2;omega) (tget_mem HX.out).2 q1
      rw[htg] at this
      exact this.mono fun e w' hh=>.inr ⟨hfr,hh.1,hh.2⟩)
  have HR9:=Aside0.mk (show had=false→fullB (takesF F n key 2 hint) key=true→putR F n key v hint=(takesF F n key 2 hint,0,false,some 9) from fun h1 h2=>by
    unfold putR
    rw[HXX.out.2.2,HHAD.out.1,if_pos ⟨h1,h2⟩])
  have HNF:=Aside0.mk (show (had=true∨fullB (takesF F n key 2 hint) key=false)→¬(had=false∧fullB (takesF F n key 2 hint) key=true) from fun h1 h2=>by
    rcases h1 with h1 | h1
    · rw[h1] at h2;exact absurd h2.1 (by decide)
    · rw[h1] at h2;exact absurd h2.2 (by decide))
  have HR8:=Aside0.mk (show (had=true∨fullB (takesF F n key 2 hint) key=false)→F.free<2→putR F n key v hint=(takesF F n key 2 hint,0,false,some 8) from fun h1 h2=>by
    unfold putR
    rw[HXX.out.2.2,HHAD.out.1,if_neg (HNF.out h1),if_pos h2])
  have HR0:=Aside0.mk (show (had=true∨fullB (takesF F n key 2 hint) key=false)→¬F.free<2→putR F n key v hint=(setF (takesF F n key 2 hint) (F.of n) key had old true v,old,had,none) from fun h1 h2=>by
    unfold putR
    rw[HXX.out.2.2,HHAD.out.1,HHAD.out.2,if_neg (HNF.out h1),if_neg h2])
  obtain⟨x0,x1,x2,x3,_,_,_,_⟩:=tx_cells HX2.out
  obtain⟨_,_,g0,g1⟩:=FwdT.pg_cells HG2.out
  have hxl:=heap_lt HX2.out
  have hgl:=heap_lt HG2.out
  cases had with
  | true=>
    have HBK:=HB2
    go_wp2_with fail
    refine (HSET.out (.inl (by simp)) _ (Below.refl _ _)).mono ?_
    rintro e w3 hset
    rcases hset with ⟨hlt,rfl,hp⟩ | ⟨hge,rfl,hp⟩
    · have HPF:=Aside0.mk (FwPost.trans HP.out fun _=>hp.back HBK.out)
      have HRF:=Aside0.mk (HR8.out (.inl (by simp)) hlt)
      clear hp hlt x0 x1 x2 x3 g0 g1 hxl hgl
      rw[show errv a (some 8) = .iface 333 (.pointer (some (a 8))) from rfl]
      go_wp2_with fail
      refine bodyPost_ret (v:=.tuple #[.int .i64 0,.bool false,.iface 333 (.pointer (some (a 8)))]) (by simp[results,Tryz.results22,go_sem]) rfl ?_
      unfold PutPost
      rw[HRF.out]
      exact⟨rfl,HPF.out⟩
    · have HPF:=Aside0.mk (FwPost.trans HP.out fun _=>hp.back HBK.out)
      have HRF:=Aside0.mk (HR0.out (.inl (by simp)) hge)
      clear hp hge x0 x1 x2 x3 g0 g1 hxl hgl
      go_wp2_with fail
      refine bodyPost_ret (v:=.tuple #[.int .i64 old,.bool true,.nilIface]) (by simp[results,Tryz.results22,go_sem]) rfl ?_
      unfold PutPost
      rw[HRF.out]
      exact⟨rfl,HPF.out⟩
  | false=>
    have HFL:=Aside0.mk (show decide ((20:Int)≤es.length+(((heldL (takesF F n key 2 hint).ks).filter (moreB es (takesF F n key 2 hint).P key)).length:Int))=fullB (takesF F n key 2 hint) key from by
      obtain⟨p1,p2⟩:=placeOf_in key HOK.out.g.pg.pages
      have hcur:=HTK.out.2.2.2.2.1 _ p1 p2
      have hP:(takesF F n key 2 hint).P=F.P:=rfl
      unfold fullB moreL
      rw[hP,hcur,HXX.out.2.2]
      refine decide_eq_decide.2 ?_
      show (20:Int)≤es.length+(((heldL (takesF F n key 2 hint).ks).filter fun k => !(has es k) && (k != key && placeOf k F.P == placeOf key F.P)).length:Int)↔_
      omega)
    have HFC:=Aside0.mk (by
      have hk3:=HTK.out.2.2.1
      have:=full_calls (Gr M w w1) sp lp pp dp qp mp blocks frames (takesF F n key 2 hint) l0 (.slice A el c) es key w2 HF2.out HP2.out HRISE.out HOK.out.g.pg.pages (by have:=HOK.out.g.p32;show F.P≤1000;omega) hk0 hk1 (by rw[hk3.held];exact hk3.once) (fun k hk=>by
        rw[hk3.held] at hk
        obtain⟨y,hy,rfl⟩:=List.mem_map.1 hk
        exact hk3.rng y hy) (by
        obtain⟨p1,p2⟩:=placeOf_in key HOK.out.g.pg.pages
        have:=(head_facts (headOk_of (HOK.out.g.pg.curV p1 p2).1)).2.2
        rw[HXX.out.2.2] at this
        omega)
      rw[HFL.out] at this
      exact this)
    obtain⟨fl,hfl⟩ : ∃b,fullB (takesF F n key 2 hint) key=b:=⟨_,rfl⟩
    rw[hfl] at HFC HSET HR9 HR8 HR0
    clear hfl
    have hg9:w2.cell? ⟨4,0,none⟩=some (.iface 333 (.pointer (some (a 9)))):=HS2.out.cell 9 (by decide)
    clear hg9
    go_wp2_with fail
    refine HFC.out.mono ?_
    rintro e w3 ⟨rfl,hb3⟩
    have HBK:=Aside0.mk (below_step HB2.out hb3)
    have HX3:=Aside0.mk ((hb3.block _ (heap_lt HX2.out)).trans HX2.out)
    have HG3:=Aside0.mk ((hb3.block _ (heap_lt HG2.out)).trans HG2.out)
    have HB3:=Aside0.mk hb3
    clear hb3 x0 x1 x2 x3 g0 g1 hxl hgl
    cases fl with
    | true=>
      have hg9:w3.cell? ⟨4,0,none⟩=some (.iface 333 (.pointer (some (a 9)))):=(HS2.out.below HB3.out).cell 9 (by decide)
      have HRF:=Aside0.mk (HR9.out (by simp) (by simp))
      go_wp2_with fail
      go_quiet (fail)
      have HPF:=Aside0.mk (FwPost.step HP.out (pw_below_drewN HBK.out nq))
      go_wp2_with fail
      refine bodyPost_ret (v:=.tuple #[.int .i64 0,.bool false,.iface 333 (.pointer (some (a 9)))]) (by simp[results,Tryz.results22,go_sem]) rfl ?_
      unfold PutPost
      rw[HRF.out]
      exact⟨rfl,HPF.out⟩
    | false=>
      obtain⟨x0,x1,x2,x3,_,_,_,_⟩:=tx_cells HX3.out
      obtain⟨_,_,g0,g1⟩:=FwdT.pg_cells HG3.out
      have hxl:=heap_lt HX3.out
      have hgl:=heap_lt HG3.out
      go_wp2_with fail
      refine (HSET.out (.inr (by simp)) _ HB3.out).mono ?_
      rintro e w4 hset
      rcases hset with ⟨hlt,rfl,hp⟩ | ⟨hge,rfl,hp⟩
      · have HPF:=Aside0.mk (FwPost.trans HP.out fun _=>hp.back HBK.out)
        have HRF:=Aside0.mk (HR8.out (.inr (by simp)) hlt)
        clear hp hlt x0 x1 x2 x3 g0 g1 hxl hgl
        rw[show errv a (some 8) = .iface 333 (.pointer (some (a 8))) from rfl]
        go_wp2_with fail
        refine bodyPost_ret (v:=.tuple #[.int .i64 0,.bool false,.iface 333 (.pointer (some (a 8)))]) (by simp[results,Tryz.results22,go_sem]) rfl ?_
        unfold PutPost
        rw[HRF.out]
        exact⟨rfl,HPF.out⟩
      · have HPF:=Aside0.mk (FwPost.trans HP.out fun _=>hp.back HBK.out)
        have HRF:=Aside0.mk (HR0.out (.inr (by simp)) hge)
        clear hp hge x0 x1 x2 x3 g0 g1 hxl hgl
        go_wp2_with fail
        refine bodyPost_ret (v:=.tuple #[.int .i64 old,.bool false,.nilIface]) (by simp[results,Tryz.results22,go_sem]) rfl ?_
        unfold PutPost
        rw[HRF.out]
        exact⟨rfl,HPF.out⟩
end Go.Proofs.YtaplpeoikebedaaGreatDoor.FwdU
namespace Go.Proofs.YtaplpeoikebedaaGreatDoor.FwdV
open Go.RowKit Go.Maps YtaplpeoikebedaaGreatDoorW.PrintWords YtaplpeoikebedaaGreatDoorW.PrintLast YtaplpeoikebedaaGreatDoorW.PrintMore
open See Mem Page Disk DiskN DiskW RecD Dirty Wal WalF SysD SysM PoolG Pager StoreD PageM StoreF StoreI StoreJ TransT LockT LockU SpaceT WaitT FwdM FwdP FwdC PageO FwdT
attribute [local go_sem] max2_imax min2_imin max_two min_two
def TakesPost1 (M:Nat→Prop)(sp lp pp dp qp mp:Nat)(blocks frames:Int)(F:FS)(n key hint:Int)(w:World)(e:Ending)(w':World):Prop:=
  ∃sl,e = .returned (.tuple #[txV (tget F.ts (F.of n)),.agg #[.int .i64 (cur F.S (placeOf key F.P)).1,sl],.nilIface])∧P2 w' 169 sl (cur F.S (placeOf key F.P)).2∧FwPost M sp lp pp dp qp mp blocks frames (takesF F n key 1 hint) w w'
theorem take1_get {N m:Nat}{ch:Int→List Int}{kp:Int→Int}{F:FS}(h:FOk N m ch kp F)(n key md hint:Int):getS F.S (placeOf key F.P) hint=((takesF F n key md hint).S,cur F.S (placeOf key F.P),.fine):=by
  obtain⟨p1,p2⟩:=placeOf_in key h.g.pg.pages
  obtain⟨S',e1,_⟩:=get_ok h hint p1 p2
  unfold takesF
  rw[e1]
theorem takes1_calls (a:Nat→Addr)(M:Nat→Prop)(sp lp pp dp qp mp:Nat)(blocks frames:Int)(F:FS)(n key hint:Int)(N m:Nat)(ch:Int→List Int)(kp:Int→Int)(w:World)(h:FwM M w sp lp pp dp qp mp blocks frames F)(hok:FOk N m ch kp F)(hk:whoL F.ks n key 1=[])(hs:SentsAll w a)(hO:OutAll M a)(h0:0≤n)(h1:n<F.sess)(h2:F.sess≤1000)
    (hx:thas F.ts (F.of n)=true) (hk0:0≤key) (hk1:key<1048576) (hl:F.ks.length≤80000) (hm:m≤30000) (hh0 : -9223372036854775808≤hint) (hh1:hint≤9223372036854775807) :
    Calls Tryz.prog 69 #[.pointer (some ⟨sp,0,none⟩),.int .i64 n,.int .i64 key,.int .i64 1,.int .i64 hint] w (TakesPost1 M sp lp pp dp qp mp blocks frames F n key hint w):=by
  have HF:=Aside0.mk (FwM.cut h)
  have HC:=Aside0.mk (fun (W:World) (hb:Below w.heap.size w W)=>called_calls _ sp lp pp dp qp mp blocks frames F n W (h.below hb) h0 h1 h2 hx hok.t.rise)
  have HS:=Aside0.mk hs
  have HO:=Aside0.mk hO
  have HOK:=Aside0.mk hok
  have HK:=Aside0.mk hk
  have HL:=Aside0.mk hl
  have HM:=Aside0.mk hm
  have HHB:=Aside0.mk (And.intro hh0 hh1)
  have q0:decide (key<0)=false:=decide_eq_false (by omega)
  have q1:decide (1048576≤key)=false:=decide_eq_false (by omega)
  have hspl:sp<w.heap.size:=by obtain⟨kv,tv,b1,_⟩:=h.box;exact heap_lt b1
  obtain⟨x,hxx⟩ : ∃x,tget F.ts (F.of n)=x:=⟨_,rfl⟩
  have HXX:=Aside0.mk hxx
  rw[hxx] at HC
  obtain⟨xi,xs,xl,xn⟩:=x
  clear h hok hk hs hO hl hm hx hxx h0 h1 h2 hh0 hh1
  go_enter Tryz.func69,Tryz.ntmps69
  go_wp2_with fail
  refine (HC.out _ (by repeat (first | exact Below.refl _ _ | apply below_drew1 | apply below_alloc))).mono ?_
  rintro e w1 ⟨rfl,hb⟩
  obtain⟨W,hW⟩ : ∃W,(w.alloc z4).alloc z2p=W:=⟨_,rfl⟩
  have hz0:W.heap[w.heap.size]? = some z4:=by rw[←hW];exact (Below.heap_alloc _ _ _ (by show _<(w.heap.push _).size;rw[Array.size_push];omega)).trans (heap_alloc_new w _)
  have hz1:W.heap[w.heap.size+1]? = some z2p:=by
    rw[←hW];have:=heap_alloc_new (w.alloc z4) z2p;rw[show (w.alloc z4).heap.size=w.heap.size+1 from by show (w.heap.push _).size=_;rw[Array.size_push]] at this;exact this
  have hsW:W.heap.size=w.heap.size+2:=by rw[←hW];show ((w.heap.push _).push _).size=_;rw[Array.size_push,Array.size_push]
  rw[show (w.alloc (.cells #[.int .i64 0,.int .i64 0,.int .i64 0,.int .i64 0] 102)).alloc (.cells #[.int .i64 0,.slice none 0 0] 74)=W from hW] at hb
  have hB0:Below w.heap.size w W:=by rw[←hW];repeat (first | exact Below.refl _ _ | apply below_drew1 | apply below_alloc)
  have hB:=below_step hB0 hb
  have HQ0:=Aside0.mk ((hb.block _ (heap_lt hz0)).trans hz0)
  have HQ1:=Aside0.mk ((hb.block _ (heap_lt hz1)).trans hz1)
  have hs1:w.heap.size+2≤w1.heap.size:=by have:=hb.size;omega
  obtain⟨bx,hbx⟩ : ∃bx,w1.heap.size=bx:=⟨_,rfl⟩
  obtain⟨W1,hW1⟩ : ∃W1,w1.alloc (.cells #[.int .i64 xi,.int .i64 xs,.int .i64 xl,.int .i64 xn] 102)=W1:=⟨_,rfl⟩
  have hBW:Below w.heap.size w W1:=by rw[←hW1];exact below_alloc hB _
  have hg1:W1.cell? ⟨6,0,none⟩=some (.iface 333 (.pointer (some (a 1)))):=(HS.out.below hBW).cell 1 (by decide)
  have HXB:=Aside0.mk (show W1.heap[bx]? = some (.cells #[.int .i64 xi,.int .i64 xs,.int .i64 xl,.int .i64 xn] 102 (0,0)) from by rw[←hW1,←hbx];exact heap_alloc_new _ _)
  have hsW1:W1.heap.size=bx+1:=by rw[←hW1,←hbx];show (w1.heap.push _).size=_;rw[Array.size_push]
  have HQ0':=Aside0.mk (show W1.heap[w.heap.size]? = some z4 from by rw[←hW1];exact (Below.heap_alloc _ _ _ (by omega)).trans HQ0.out)
  have HQ1':=Aside0.mk (show W1.heap[w.heap.size+1]? = some z2p from by rw[←hW1];exact (Below.heap_alloc _ _ _ (by omega)).trans HQ1.out)
  have HFW:=Aside0.mk (HF.out.below hBW)
  have HBW:=Aside0.mk hBW
  have HWE:=Aside0.mk hW1
  have HBX:=Aside0.mk hbx
  obtain⟨c0,_,_,_,_,_,_,_⟩:=HFW.out.cells
  have hspW:sp<W1.heap.size:=by omega
  have he:=neq_nil (a 1) W1
  simp only[txV,z4,z2p] at *
  clear hb hB hB0 hW hW1 hBW hz0 hz1 hsW hbx
  go_upto_region 2 with fail
  rw[show w1.alloc (.cells #[.int .i64 xi,.int .i64 xs,.int .i64 xl,.int .i64 xn] 102)=W1 from HWE.out]
  go_upto_region 6 with fail
  obtain⟨cs,kv,hlk,hput⟩:=FwM.lks HFW.out
  have HLK:=Aside0.mk hlk
  have HPUT:=Aside0.mk hput
  clear hlk hput
  go_wp2_with fail
  refine (take_calls _ sp 6 118 cs kv F.ks n key 1 _ HLK.out (.inl rfl) HK.out (by have:=HL.out;omega)).mono ?_
  rintro e w2 ⟨rfl,hpost⟩
  have HP2:=Aside0.mk (HPUT.out _ _ hpost)
  clear hpost HLK HPUT
  have k0:w2.cell? ⟨sp,0,none⟩=some (.int .i64 F.P):=HP2.out.1.cells.1
  have k5:=HP2.out.1.cells.2.2.2.1
  have HS1:=Aside0.mk (HS.out.below HBW.out)
  have HOC:=Aside0.mk (OutAll.sub (M':=Cut M w.heap.size) HO.out fun k hk=>hk.1)
  have HS2:=Aside0.mk (SentsAll.kp HS1.out HP2.out.2 HOC.out)
  have HOG:=Aside0.mk (OutAll.gr (w':=w2) HOC.out HS1.out)
  have hnc : ∀k,w.heap.size≤k→¬Cut M w.heap.size k:=fun k hk hc=>by have:=hc.2;omega
  have hsW2:W1.heap.size≤w2.heap.size:=HP2.out.2.size
  have hsp2:sp<w2.heap.size:=by omega
  have hsB:w.heap.size≤bx:=by have:=HBX.out;omega
  have HT0:=Aside0.mk (fun (V:World) (hb:Below w2.heap.size w2 V)=>by
    obtain⟨p1,p2⟩:=placeOf_in key HOK.out.g.pg.pages
    have t1:=take1_get HOK.out n key 1 hint
    have hg:=get_pool a _ pp lp dp F.S (placeOf key F.P) hint V ((HS2.out.below hb).k _ (by decide)) (HOG.out.k _ (by decide)) (HP2.out.1.below hb).sys (HOK.out.g.loose.mono (by have:=HM.out;omega)) HHB.out.1 HHB.out.2
    exact hg.mono fun e w3=>by
      rintro⟨sl,ev,rfl,hp,hv,hx,hf⟩
      rw[t1] at hp hv hx ⊢
      have hev:ev = .nilIface:=hv
      subst hev
      have hpost:=FwM.sy (HP2.out.1.below hb) hx hf
      exact (getin (X:=.cells #[.int .i64 xi,.int .i64 xs,.int .i64 xl,.int .i64 xn] 102 (0,0)) (bx:=bx) hp hpost HBW.out HP2.out.2 hb HQ0'.out HQ1'.out HXB.out hsB))
  obtain⟨pk,hpk⟩ : ∃pk,placeOf key F.P=pk:=⟨_,rfl⟩
  obtain⟨P,hP⟩ : ∃P,F.P=P:=⟨_,rfl⟩
  have HPK:=Aside0.mk (show placeOf key P=pk by rw[←hP];exact hpk)
  have HPB:=Aside0.mk (show 1≤P∧P≤1000 by rw[←hP];have:=HOK.out.g.pg.pages;have:=HOK.out.g.p32;omega)
  obtain⟨l0,hl0⟩ : ∃l0,(cur F.S (placeOf key F.P)).1=l0:=⟨_,rfl⟩
  obtain⟨es,hes⟩ : ∃es,(cur F.S (placeOf key F.P)).2=es:=⟨_,rfl⟩
  rw[hl0,hes,hpk] at HT0
  rw[hP] at k0
  have HLE:=Aside0.mk (And.intro hl0 hes)
  have HT1:=Aside0.mk (fun (V:World) (hb:Below w2.heap.size w2 V) (b:Nat) (o:Obj) (hx:V.heap[b]? = some o) (hb1:w2.heap.size≤b)=>(HT0.out V hb).mono (fun e w3 (h:GetIn M sp lp pp dp qp mp blocks frames (takesF F n key 1 hint) l0 es w bx (.cells #[.int .i64 xi,.int .i64 xs,.int .i64 xl,.int .i64 xn] 102 (0,0)) (Gr (Cut M w.heap.size) W1 w2) V e w3)=>(⟨h,by
    obtain⟨sl,_,_,hk⟩:=h
    refine hk.at hx fun hc => ?_
    rcases hc with hc | ⟨c1,c2⟩
    · have:=hc.2;omega
    · omega⟩:GetIn M sp lp pp dp qp mp blocks frames (takesF F n key 1 hint) l0 es w bx (.cells #[.int .i64 xi,.int .i64 xs,.int .i64 xl,.int .i64 xn] 102 (0,0)) (Gr (Cut M w.heap.size) W1 w2) V e w3∧w3.heap[b]? = some o)))
  clear hpk hP hl0 hes
  have HNG:=fun (V w3:World) (hv:w2.heap.size<V.heap.size) (hc:Gr (Gr (Cut M w.heap.size) W1 w2) V w3 w2.heap.size)=>(show False from by
    rcases hc with (hc | ⟨c1,c2⟩) | ⟨c1,c2⟩
    · have:=hc.2;have:=HBX.out;omega
    · omega
    · omega)
  have hs12:w.heap.size+2≤bx∧bx<w2.heap.size:=by have:=HBX.out;omega
  go_upto_region 12 with fail
  go_cut [14,15] (fun v14 v15 wx=>v14 = .nilIface∧∃(b:Nat) (sl:Value) (R:Nat→Prop),v15 = .pointer (some ⟨b,0,none⟩)∧Aside0 (wx.heap[b]? = some (.cells #[.int .i64 l0,sl] 74 (0,0)))∧Aside0 (TB M sp lp pp dp qp mp blocks frames (takesF F n key 1 hint) es w bx (.cells #[.int .i64 xi,.int .i64 xs,.int .i64 xl,.int .i64 xn] 102 (0,0)) R sl wx)∧Aside0 (w.heap.size+2≤b))
  case first=>
    go_region_law (first
      | (go_simp;go_at_call 125;refine (place_at key P pk hk0 hk1 HPB.out.1 HPB.out.2 HPK.out _).mono ?_;rintro e wq ⟨rfl,rfl⟩)
      | (go_simp;go_at_call 37;refine (HT1.out _ (by repeat (first | exact Below.refl _ _ | apply below_drew1 | apply below_alloc)) w2.heap.size _ (by exact heap_alloc_new w2 _) (Nat.le_refl _)).mono ?_;rintro e w3 ⟨⟨sl,rfl,htb,hkp⟩,hbo⟩;obtain⟨A3,c3,rfl,_⟩:=ow_slice htb.p.1;obtain⟨o0,o1,g0,g1⟩:=Go.Proofs.YtaplpeoikebedaaGreatDoor.FwdT.pg_cells hbo)
      | (go_simp;go_at_call 37;refine (HT0.out _ (by repeat (first | exact Below.refl _ _ | apply below_drew1 | apply below_alloc))).mono ?_;rintro e w3 ⟨sl,rfl,htb,hkp⟩;obtain⟨A3,c3,rfl,_⟩:=ow_slice htb.p.1))
    all_goals
      first
        | (rw[show (w3.setCell ⟨w2.heap.size,0,none⟩ (.int .i64 l0)).setCell ⟨w2.heap.size,1,none⟩ (.slice A3 es.length c3)=pgPut w3 w2.heap.size l0 (.slice A3 es.length c3) from rfl]
           have HH1:=Aside0.mk (pgPut_heap hbo l0 (.slice A3 es.length c3))
           have HH2:=Aside0.mk (TB.pg htb hbo (HNG _ _ (by show _<(w2.heap.push _).size;rw[Array.size_push];omega)) (by omega) (by omega) (by omega) (by omega) l0 (.slice A3 es.length c3))
           have HH3:=Aside0.mk (show w.heap.size+2≤w2.heap.size by omega)
           clear o0 o1 g0 g1 hbo htb hkp
           generalize pgPut w3 w2.heap.size l0 (.slice A3 es.length c3)=wd at HH1 HH2 ⊢)
        | (have HH1:=Aside0.mk (heap_alloc_new w3 (.cells #[.int .i64 l0,.slice A3 es.length c3] 74))
           have HH2:=Aside0.mk (htb.below (below_alloc (Below.refl _ _) (.cells #[.int .i64 l0,.slice A3 es.length c3] 74)))
           have HH3:=Aside0.mk (show w.heap.size+2≤w3.heap.size by have:=htb.k.size;have:=hkp.size;simp at this;omega)
           clear htb hkp
           generalize w3.alloc (.cells #[.int .i64 l0,.slice A3 es.length c3] 74)=wd at HH1 HH2 ⊢)
      go_wp2_with fail
      go_meet
      exact⟨rfl,_,_,_,rfl,HH1,HH2,HH3⟩
  case rest=>
    obtain⟨rfl,b,sl,R,rfl,HPG,HTB,HBN⟩:=hcut
    obtain⟨A3,c3,rfl,_⟩:=ow_slice HTB.out.p.1
    rw[HBX.out]
    obtain⟨_,_,g0,g1⟩:=Go.Proofs.YtaplpeoikebedaaGreatDoor.FwdT.pg_cells HPG.out
    obtain⟨x0,x1,x2,x3,_,_,_,_⟩:=tx_cells HTB.out.bx
    obtain⟨_,_,_,_,r0,r1,r2,r3⟩:=tx_cells HTB.out.b0
    obtain⟨f0,f1,_,_⟩:=Go.Proofs.YtaplpeoikebedaaGreatDoor.FwdT.pg_cells HTB.out.b1
    have hlt0:=heap_lt HTB.out.b0
    have hlt1:=heap_lt HTB.out.b1
    have n1:b≠w.heap.size:=by have:=HBN.out;omega
    have n2:b≠w.heap.size+1:=by have:=HBN.out;omega
    have n3:bx≠w.heap.size:=by omega
    have n4:bx≠w.heap.size+1:=by omega
    clear k0 k5 hg1 he hs1 hspW hsW1 hsW2 hsp2 hnc
    go_upto_region 13 with fail
    go_cut [12] (fun v12 wx=>v12 = .nilIface∧Aside0 (TE M sp lp pp dp qp mp blocks frames (takesF F n key 1 hint) es w ⟨xi,xs,xl,xn⟩ l0 (.slice A3 es.length c3) wx))
    case first=>
      go_region_law (fail)
      all_goals
        rw[show (((((wc.setCell ⟨w.heap.size,0,none⟩ (.int .i64 xi)).setCell ⟨w.heap.size,1,none⟩ (.int .i64 xs)).setCell ⟨w.heap.size,2,none⟩ (.int .i64 xl)).setCell ⟨w.heap.size,3,none⟩ (.int .i64 xn)).setCell ⟨w.heap.size+1,0,none⟩ (.int .i64 l0)).setCell ⟨w.heap.size+1,1,none⟩ (.slice A3 es.length c3)=pgPut (txPut wc w.heap.size ⟨xi,xs,xl,xn⟩) (w.heap.size+1) l0 (.slice A3 es.length c3) from rfl]
        have HTE:=Aside0.mk (TB.fin1 HTB.out ⟨xi,xs,xl,xn⟩ l0)
        generalize pgPut (txPut wc w.heap.size ⟨xi,xs,xl,xn⟩) (w.heap.size+1) l0 (.slice A3 es.length c3)=wd at HTE ⊢
        go_wp2_with fail
        go_meet
        exact⟨rfl,⟨TE.below HTE.out (by repeat (first | exact Below.refl _ _ | apply below_drew1))⟩⟩
    case rest=>
      obtain⟨rfl,HTE⟩:=hcut
      clear g0 g1 x0 x1 x2 x3 r0 r1 r2 r3 f0 f1 hlt0 hlt1
      obtain⟨x0,x1,x2,x3,_,_,_,_⟩:=tx_cells HTE.out.b0
      obtain⟨_,_,g0,g1⟩:=Go.Proofs.YtaplpeoikebedaaGreatDoor.FwdT.pg_cells HTE.out.b1
      go_wp2_with fail
      refine bodyPost_ret (v:=.tuple #[.agg #[.int .i64 xi,.int .i64 xs,.int .i64 xl,.int .i64 xn],.agg #[.int .i64 l0,.slice A3 es.length c3],.nilIface]) ?_ ?_ ?_
      case refine_2=>rfl
      case refine_3=>exact⟨.slice A3 es.length c3,by rw[HXX.out,HLE.out.1];rfl,by rw[HLE.out.2];exact HTE.out.p,HTE.out.f⟩
      simp[results,Tryz.results69,go_sem,x0,x1,x2,x3,g0,g1]
end Go.Proofs.YtaplpeoikebedaaGreatDoor.FwdV
