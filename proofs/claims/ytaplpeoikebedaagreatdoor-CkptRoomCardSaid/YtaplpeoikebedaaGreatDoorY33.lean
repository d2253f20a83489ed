/- Joined texts: BackV, BackS, BackU, StoreV. No condition but what each says. -/
import Derived.Test.YtaplpeoikebedaaGreatDoorY32
import Derived.Test.YtaplpeoikebedaaGreatDoorY29
import Derived.Test.YtaplpeoikebedaaGreatDoorY31
import Derived.Test.YtaplpeoikebedaaGreatDoorY22
import Derived.Test.YtaplpeoikebedaaGreatDoorY28
import Derived.Test.YtaplpeoikebedaaGreatDoorY26
import Derived.BigQuiet
set_option maxHeartbeats 8000000
set_option maxRecDepth 100000
set_option linter.unusedVariables false
set_option linter.unusedSimpArgs false
namespace Go.Proofs.YtaplpeoikebedaaGreatDoor.BackV
open Go.RowKit Go.Maps YtaplpeoikebedaaGreatDoorW.PrintWords YtaplpeoikebedaaGreatDoorW.PrintLast YtaplpeoikebedaaGreatDoorW.PrintMore
open See Mem Clone Go.Proofs.YtaplpeoikebedaaGreatDoor.Cell Page PageB PageR Disk Dirty Pool2 SysD SysM StoreD StoreF TransT LockT LockU SpaceT WaitT FwdM FwdP FwdC FwdE FwdT BackM BackW
attribute [local go_sem] max2_imax min2_imin max_two min_two
theorem SvM.put {w:World}{bm:Nat}{m:Int}{vv:Int→Value}(h:SvM w bm m vv){s:Int}{v:Value}(h0 : -9223372036854775808≤s)(h1:s≤9223372036854775807)(hm:m<1000000) :
    ∃w',(Instr.mapUpdate 59 (.map (some bm)) (.int .i64 s) v).run Tryz.prog w = .ok () w'∧SvM w' bm (m+1) (fun t=>if t=s then v else vv t)∧w.grownBy w' (some bm):=by
  obtain⟨n,D,hown,hn,hat⟩:=h
  obtain⟨w',hrun,hown',hg⟩:=hown.update (key:=.int .i64 s) (val:=v) (d:=.held v) (ps:=[]) (int_keyed Tryz.underlying3) Tryz.underlying59 (by unfold maxLen;omega) (keyOf_int_mk Tryz.underlying3 (wf64 h0 h1)) rfl
  refine⟨w',hrun,⟨n+1,_,hown',by push_cast;omega,fun t => ?_⟩,hg⟩
  show _=DataW.held (if t=s then v else vv t)
  by_cases e:t=s
  · rw[if_pos e,e]
    exact atKey_put_same (k:=.int .i64 s) hown.isMap trivial _ _
  · rw[if_neg e,atKey_put_other (fun h=>e (by injection h)),hat]
def updS (sv:Int→Sv)(n:Int)(v:Sv):Int→Sv:=fun t=>if t=n then v else sv t
theorem BkIn.put {M R:Nat→Prop}{bp bm sp lp pp dp qp mp:Nat}{blocks frames:Int}{B:BSt}{sl:Int→Value}{w w':World}(h:BkIn M w bp bm sp lp pp dp qp mp blocks frames B R sl){n id t:Int}{v':Value}{xs':List Int}{nu:Int}
    (hos:w'.os=w.os∧w'.tape=w.tape∧w'.output=w.output) (hsz:w.heap.size≤w'.heap.size) (hfar : ∀j,j<w.heap.size→j≠bm→(slOf B sl n id).ownBlock≠some j→w'.heap[j]? = w.heap[j]?)
    (hmap:SvM w' bm nu (fun s=>if s=n then svV t v' else svV (B.sv s).txn (sl s))) (hrow:IS w' 0 v' xs') (hown : ∀g,v'.ownBlock=some g→(slOf B sl n id).ownBlock=some g∨(w.heap.size≤g∧g<w'.heap.size)) :
    BkPost M bp bm sp lp pp dp qp mp blocks frames { F:=B.F,sv:=updS B.sv n ⟨t,xs'⟩,nu:=nu } w w':=by
  obtain⟨es,cl,hm⟩:=h.map.map
  have hsl : ∀j,(slOf B sl n id).ownBlock=some j→(sl n).ownBlock=some j:=fun j hj=>by
    unfold slOf at hj
    split at hj
    · exact hj
    · simp[Value.ownBlock] at hj
  have nb : ¬R bp:=fun hr=>(h.r bp hr).2.1 rfl
  have nm : ¬R bm:=fun hr=>(h.r bm hr).2.2.1 rfl
  have hml:=heap_lt hm
  have hbl:=heap_lt h.box
  have hbm:bp≠bm:=fun e=>by have:=h.box;rw[e,hm] at this;cases this
  have tm:tag w bm=0:=by unfold tag;rw[hm]
  have hrow0 : ∀j,(slOf B sl n id).ownBlock=some j→j<w.heap.size∧tag w j=3∧¬R j∧j≠bp∧j≠bm:=fun j hj=>by
    obtain⟨a,b,c⟩:=h.rowAt (hsl j hj)
    refine⟨a,b,c,fun e => ?_,fun e => ?_⟩
    · rw[e,tag_of h.box] at b;exact absurd b (by decide)
    · rw[e,tm] at b;exact absurd b (by decide)
  have hf:FwM (Cut R w.heap.size) w' sp lp pp dp qp mp blocks frames B.F:=FwM.out (FwM.cut h.f) fun k hk hh=>hfar k hk (fun e=>by
    subst e
    rcases hh with hh | hh | hh
    · exact nm hh.1
    · rw[tm] at hh;exact absurd hh (by decide)
    · rw[tm] at hh;exact absurd hh (by decide)) (fun e=>by
    obtain⟨a,b,c,_⟩:=hrow0 k e
    rcases hh with hh | hh | hh
    · exact c hh.1
    · rw[b] at hh;exact absurd hh (by decide)
    · rw[b] at hh;exact absurd hh (by decide))
  refine⟨⟨Cut R w.heap.size,fun s=>if s=n then v' else sl s,(hfar bp hbl hbm fun e=>(hrow0 bp e).2.2.2.1 rfl).trans h.box,hf,?_,fun s => ?_,fun k hk => ?_,fun s k hk => ?_,fun s u k hs hu => ?_,.inl h.low.1,.inl h.low.2⟩,⟨hos.1,hos.2.1,hos.2.2,hsz,fun k hk hn => ?_,fun k hk ht => ?_⟩⟩
  · have e:(fun s=>svV ((updS B.sv n ⟨t,xs'⟩) s).txn (if s=n then v' else sl s))=(fun s=>if s=n then svV t v' else svV (B.sv s).txn (sl s)):=by
      funext s
      unfold updS
      by_cases e:s=n
      · rw[if_pos e,if_pos e,if_pos e]
      · rw[if_neg e,if_neg e,if_neg e]
    show SvM w' bm nu (fun s=>svV ((updS B.sv n ⟨t,xs'⟩) s).txn (if s=n then v' else sl s))
    rw[e];exact hmap
  · show IS w' 0 (if s=n then v' else sl s) ((updS B.sv n ⟨t,xs'⟩) s).l
    unfold updS
    by_cases e:s=n
    · rw[if_pos e,if_pos e];exact hrow
    · rw[if_neg e,if_neg e]
      refine ow_move (h.row s) fun j hj => ?_
      obtain⟨a,b,_⟩:=h.rowAt hj
      exact hfar j a (fun e2=>by rw[e2,tm] at b;exact absurd b (by decide)) (fun e2=>e (h.apart s n j hj (hsl j e2)))
  · obtain⟨a,b,c,d⟩:=h.r k hk.1
    refine⟨.inl a,b,c,fun s hs => ?_⟩
    by_cases e:s=n
    · rw[if_pos e] at hs
      rcases hown k hs with hs | ⟨q,_⟩
      · exact d n (hsl k hs)
      · have:=hk.2;omega
    · rw[if_neg e] at hs
      exact d s hs
  · by_cases e:s=n
    · rw[if_pos e] at hk
      rcases hown k hk with hk | hk
      · exact .inl (h.own n k (hsl k hk))
      · exact .inr hk
    · rw[if_neg e] at hk
      exact .inl (h.own s k hk)
  · by_cases e:s=n
    · by_cases e2:u=n
      · rw[e,e2]
      · exfalso
        rw[if_pos e] at hs
        rw[if_neg e2] at hu
        rcases hown k hs with hs | ⟨q,_⟩
        · exact e2 (h.apart u n k hu (hsl k hs))
        · have:=(h.rowAt hu).1;omega
    · by_cases e2:u=n
      · exfalso
        rw[if_neg e] at hs
        rw[if_pos e2] at hu
        rcases hown k hu with hu | ⟨q,_⟩
        · exact e (h.apart s n k hs (hsl k hu))
        · have:=(h.rowAt hs).1;omega
      · rw[if_neg e] at hs
        rw[if_neg e2] at hu
        exact h.apart s u k hs hu
  · exact hfar k hk (fun e=>hn (by rw[e];exact h.low.2)) (fun e=>hn (h.own n k (hsl k e)))
  · exact hfar k hk (fun e=>by rw[e,tm] at ht;exact absurd ht (by decide)) (fun e=>by rw[(hrow0 k e).2.1] at ht;exact absurd ht (by decide))
end Go.Proofs.YtaplpeoikebedaaGreatDoor.BackV
namespace Go.Proofs.YtaplpeoikebedaaGreatDoor.BackS
open Go.RowKit Go.Maps YtaplpeoikebedaaGreatDoorW.PrintWords YtaplpeoikebedaaGreatDoorW.PrintLast YtaplpeoikebedaaGreatDoorW.PrintMore
open See Mem Page Disk DiskN DiskW RecD Rec Dirty Wal WalF WalR PoolG PoolS SysD SysM FlushG Pager StoreD PageM StoreF StoreG StoreH StoreI StoreJ TransT LockT LockU SpaceT WaitT ChainT ChangeT ChangeU FwdM FwdP FwdC FwdT FwdB FwdS BackD
attribute [local go_sem] max2_imax min2_imin max_two min_two
theorem sback_calls (a:Nat→Addr)(M:Nat→Prop)(sp lp pp dp qp mp:Nat)(blocks frames:Int)(F:FS)(id k nx:Int)(r:RecV)(hint:Int)(S':PSys)(w:World)(h:FwM M w sp lp pp dp qp mp blocks frames F)(hs:SentsAll w a)(hO:OutAll M a)(hi:BackIn F id k nx r hint S')(hb1 : -9223372036854775808≤hint)(hb2:hint≤9223372036854775807) :
    Calls Tryz.prog 143 #[.pointer (some ⟨lp,0,none⟩),.pointer (some ⟨pp,0,none⟩),.pointer (some ⟨sp,8,none⟩),.pointer (some ⟨qp,0,none⟩),txV (tget F.ts id),.int .i64 hint] w fun e w'=>e = .returned .nilIface∧FwPost M sp lp pp dp qp mp blocks frames (backF F id k nx r hint) w w':=by
  have HF:=Aside0.mk h
  have HS:=Aside0.mk hs
  have HO:=Aside0.mk hO
  have HI:=Aside0.mk hi
  have hd1:decide (F.kept<1)=false:=decide_eq_false (by have:=hi.kept;omega)
  obtain⟨l0,hl0⟩ : ∃l0,(cur F.S r.page).1=l0:=⟨_,rfl⟩
  obtain⟨es,hes⟩ : ∃es,(cur F.S r.page).2=es:=⟨_,rfl⟩
  have hg:=hi.get
  have hn0:=hi.n0
  have hset:=hi.set_
  have hrok:=append_room hi.rok hi.r1
  have hclr:recClr (tget F.ts id) r k nx=⟨3,r.txn,r.page,(tget F.ts id).last,nx,r.key,true,r.had,k,r.old⟩:=rfl
  have hlast:=hi.last
  obtain⟨x,hxx⟩ : ∃x,tget F.ts id=x:=⟨_,rfl⟩
  have hid:=hi.id_
  rw[hxx] at hn0 hset hrok hclr hid ⊢
  have hlsn:=hi.lsn
  have hroom:=hi.room
  have hrise:=hi.rise
  rw[hl0] at hlsn
  rw[hes] at hset hroom hrise
  have hcu:cur F.S r.page=(l0,es):=by rw[←hl0,←hes]
  rw[hcu] at hg
  have HG:=Aside0.mk (fun (V:World) (hbv:Below w.heap.size w V)=>by
    have hl:=LB.start h hbv
    obtain⟨q1,q2⟩:=hl.sents hs hO
    have hp:=get_pool a _ pp lp dp F.S r.page hint V (q1.k _ (by decide)) (q2.k _ (by decide)) hl.f.sys hi.lse hb1 hb2
    exact hp.mono (fun e w3 hh=>(by
      obtain⟨sl,ev,rfl,hp,hv,hx,hf⟩:=hh
      rw[hg] at hp hv hx ⊢
      have hev:ev = .nilIface:=hv
      subst hev
      exact⟨sl,rfl,hp,hl.step (FwM.sy hl.f hx hf)⟩ : ∃sl,e = .returned (.tuple #[.agg #[.int .i64 l0,sl],.nilIface])∧P2 w3 169 sl es∧LB M sp lp pp dp qp mp blocks frames { F with S:=S' } w V (Gr (Cut M w.heap.size) V w3) w3)))
  have HSET:=Aside0.mk hset
  have HROK:=Aside0.mk hrok
  have HRD:=Aside0.mk (And.intro hlsn (And.intro hroom hrise))
  obtain⟨c,hc⟩ : ∃c,recClr x r k nx=c:=⟨_,rfl⟩
  rw[hc] at HSET HROK hclr
  have HC:=Aside0.mk hclr
  have HREC:=Aside0.mk (And.intro hn0 (And.intro hi.rec_ hi.n1))
  have HKD:=Aside0.mk hi.kind
  obtain⟨xi,xs,xl,xn⟩:=x
  simp only at hid
  subst hid
  have HW:=Aside0.mk (show IntKind.i64.wrap (S'.l.last+1)=S'.l.last+1 by rw[IntKind.wrap_i64];omega)
  obtain⟨rk,rt,rp,rv,rx,ry,rh,ra,ro,rn⟩:=r
  simp only at *
  simp only[txV]
  clear h hs hO hi hn0 hset hrok hclr hlsn hroom hrise hcu hg hl0 hes hc hxx hlast
  go_enter Tryz.func143,Tryz.ntmps143
  go_upto_region 1 with fail
  obtain⟨W,hW⟩ : ∃W,w.alloc (.cells #[.int .i64 xi,.int .i64 xs,.int .i64 xl,.int .i64 xn] 102)=W:=⟨_,rfl⟩
  have HXB:=Aside0.mk (show W.heap[w.heap.size]? = some (.cells #[.int .i64 xi,.int .i64 xs,.int .i64 xl,.int .i64 xn] 102 (0,0)) by rw[←hW];exact heap_alloc_new _ _)
  have HBW:=Aside0.mk (show Below w.heap.size w W by rw[←hW];exact below_alloc (Below.refl _ _) _)
  rw[hW]
  clear hW
  obtain⟨bx,hbx⟩ : ∃bx,w.heap.size=bx:=⟨_,rfl⟩
  have HBX:=Aside0.mk hbx
  rw[hbx] at HXB ⊢
  clear hbx
  obtain⟨x0,x1,x2,x3,_,_,_,_⟩:=tx_cells HXB.out
  have hxl:=heap_lt HXB.out
  go_wp2_with fail
  refine (kept_space qp F.free F.kept _ (HF.out.below HBW.out).room).mono ?_
  rintro e w' ⟨rfl,rfl⟩
  obtain⟨lv,hlg⟩:=(HF.out.below HBW.out).sys.log
  have HLG:=Aside0.mk hlg
  clear hlg
  go_wp2_with fail
  refine (norm_calls _ lp dp lv F.S.l xn k _ HLG.out HREC.out.1).mono ?_
  rintro e w1 ⟨rfl,hb⟩
  have HB1:=Aside0.mk hb
  clear hb x0 x1 x2 x3 hxl
  go_wp2_with fail
  refine (rec_log _ lp dp lv F.S.l k _ _ (HLG.out.below HB1.out) HREC.out.2.1).mono ?_
  rintro e w2 ⟨rfl,hb⟩
  have HB2:=Aside0.mk (below_step HB1.out hb)
  clear hb HLG
  simp only[recV]
  obtain⟨V0,hV0⟩ : ∃V,w2.alloc (.cells #[.int .i64 rk,.int .i64 rt,.int .i64 rp,.int .i64 rv,.int .i64 rx,.int .i64 ry,.bool rh,.bool ra,.int .i64 ro,.int .i64 rn] 46)=V:=⟨_,rfl⟩
  have HRB:=Aside0.mk (show V0.heap[w2.heap.size]? = some (.cells (recA ⟨rk,rt,rp,rv,rx,ry,rh,ra,ro,rn⟩) 46 (0,0)) by rw[←hV0];exact heap_alloc_new _ _)
  have HBV:=Aside0.mk (below_step HBW.out (below_step HB2.out (show Below w2.heap.size w2 V0 by rw[←hV0];exact below_alloc (Below.refl _ _) _)))
  have HX0:=Aside0.mk (((below_step HB2.out (show Below w2.heap.size w2 V0 by rw[←hV0];exact below_alloc (Below.refl _ _) _)).block _ (heap_lt HXB.out)).trans HXB.out)
  have HV:=Aside0.mk hV0
  obtain⟨br,hbr⟩ : ∃b,w2.heap.size=b:=⟨_,rfl⟩
  have HBR:=Aside0.mk (show w.heap.size≤br by have:=HBW.out.size;have:=HB2.out.size;omega)
  have HBR2:=Aside0.mk hbr
  rw[hbr] at HRB
  clear hV0 hbr
  go_upto_region 7 with fail
  rw[HV.out,HBR2.out]
  obtain⟨y0,y1,y2,y3,y4,y5,y6,y7,y8,y9⟩:=Go.Proofs.YtaplpeoikebedaaGreatDoor.ChangeT.rec_cells HRB.out
  have hrl:=heap_lt HRB.out
  go_wp2_with fail
  refine (HG.out V0 HBV.out).mono ?_
  rintro e w3 ⟨sl,rfl,hp3,hl3⟩
  obtain⟨A3,c3,rfl,_⟩:=ow_slice hp3.1
  obtain⟨n,hn⟩ : ∃n,es.length=n:=⟨_,rfl⟩
  have HN:=Aside0.mk hn
  rw[hn] at hp3 ⊢
  have HL3:=Aside0.mk hl3
  have HP3:=Aside0.mk hp3
  have hbxw:w.heap.size≤bx:=Nat.le_of_eq HBX.out
  have HX3:=Aside0.mk (hl3.at HX0.out hbxw)
  have HR3:=Aside0.mk (hl3.at HRB.out HBR.out)
  have HNX:=Aside0.mk (And.intro (hl3.nn bx hbxw (heap_lt HX0.out)) (hl3.nn br HBR.out (heap_lt HRB.out)))
  have HS3:=Aside0.mk (hl3.sents HS.out HO.out)
  clear hl3 hp3 hn y0 y1 y2 y3 y4 y5 y6 y7 y8 y9 hrl hbxw HG HX0 HRB HV HBR2 HBV
  obtain⟨V2,hV2⟩ : ∃V,w3.alloc (.cells #[.int .i64 l0,.slice A3 n c3] 74)=V:=⟨_,rfl⟩
  have HB3:=Aside0.mk (show Below w3.heap.size w3 V2 by rw[←hV2];exact below_alloc (Below.refl _ _) _)
  have HG2:=Aside0.mk (show V2.heap[w3.heap.size]? = some (.cells #[.int .i64 l0,.slice A3 n c3] 74 (0,0)) by rw[←hV2];exact heap_alloc_new _ _)
  have HV2:=Aside0.mk hV2
  obtain⟨bg,hbg⟩ : ∃b,w3.heap.size=b:=⟨_,rfl⟩
  have HBG:=Aside0.mk hbg
  rw[hbg] at HG2
  clear hV2 hbg
  go_upto_region 10 with fail
  rw[HV2.out,HBG.out]
  have HX2:=Aside0.mk ((HB3.out.block _ (heap_lt HX3.out)).trans HX3.out)
  have HR2:=Aside0.mk ((HB3.out.block _ (heap_lt HR3.out)).trans HR3.out)
  have HP2:=Aside0.mk (HP3.out.below HB3.out)
  obtain⟨y0,y1,y2,y3,y4,y5,y6,y7,y8,y9⟩:=Go.Proofs.YtaplpeoikebedaaGreatDoor.ChangeT.rec_cells HR2.out
  simp only at y0 y1 y2 y3 y4 y5 y6 y7 y8 y9
  have hrl:=heap_lt HR2.out
  obtain⟨lv2,hlg2⟩:=(HL3.out.f.below HB3.out).sys.log
  have HLG2:=Aside0.mk hlg2
  clear hlg2
  go_wp2_with fail
  refine (norm_calls _ lp dp lv2 S'.l rv nx _ HLG2.out HREC.out.2.2).mono ?_
  rintro e w4 ⟨rfl,hb⟩
  have HB4:=Aside0.mk hb
  have HX4:=Aside0.mk ((hb.block _ (heap_lt HX2.out)).trans HX2.out)
  have HR4:=Aside0.mk ((hb.block _ (heap_lt HR2.out)).trans HR2.out)
  clear hb y0 y1 y2 y3 y4 y5 y6 y7 y8 y9 hrl
  obtain⟨y0,y1,y2,y3,y4,y5,y6,y7,y8,y9⟩:=Go.Proofs.YtaplpeoikebedaaGreatDoor.ChangeT.rec_cells HR4.out
  simp only at y0 y1 y2 y3 y4 y5 y6 y7 y8 y9
  have hrl:=heap_lt HR4.out
  obtain⟨x0,x1,x2,x3,_,_,_,_⟩:=tx_cells HX4.out
  have hxl:=heap_lt HX4.out
  go_wp2_with fail
  refine (undo_calls ⟨rk,rt,rp,rv,rx,ry,rh,ra,ro,rn⟩ k xl nx _ HKD.out).mono ?_
  rintro e w5 ⟨rfl,hb⟩
  have HB5:=Aside0.mk (below_step HB4.out hb)
  have HX5:=Aside0.mk ((hb.block _ (heap_lt HX4.out)).trans HX4.out)
  have HR5:=Aside0.mk ((hb.block _ (heap_lt HR4.out)).trans HR4.out)
  clear hb y0 y1 y2 y3 y4 y5 y6 y7 y8 y9 hrl x0 x1 x2 x3 hxl
  simp only[recV]
  obtain⟨V3,hV3⟩ : ∃V,w5.alloc (.cells #[.int .i64 3,.int .i64 rt,.int .i64 rp,.int .i64 xl,.int .i64 nx,.int .i64 ry,.bool true,.bool rh,.int .i64 k,.int .i64 ro] 46)=V:=⟨_,rfl⟩
  have HB53:=Aside0.mk (show Below w5.heap.size w5 V3 by rw[←hV3];exact below_alloc (Below.refl _ _) _)
  have HC3:=Aside0.mk (show V3.heap[w5.heap.size]? = some (.cells (recA c) 46 (0,0)) by rw[HC.out,←hV3];exact heap_alloc_new _ _)
  have HV3:=Aside0.mk hV3
  obtain⟨bc,hbc⟩ : ∃b,w5.heap.size=b:=⟨_,rfl⟩
  have HBC:=Aside0.mk hbc
  rw[hbc] at HC3
  have HBV3:=Aside0.mk (below_step HB3.out (below_step HB5.out HB53.out))
  have HBC3:=Aside0.mk (show w3.heap.size≤bc by have:=HB3.out.size;have:=HB5.out.size;omega)
  clear hV3 hbc
  go_upto_region 16 with fail
  rw[HV3.out,HBC.out]
  have HX6:=Aside0.mk ((HB53.out.block _ (heap_lt HX5.out)).trans HX5.out)
  have HR6:=Aside0.mk ((HB53.out.block _ (heap_lt HR5.out)).trans HR5.out)
  have HG6:=Aside0.mk (((below_step HB5.out HB53.out).block _ (heap_lt HG2.out)).trans HG2.out)
  have HP6:=Aside0.mk (HP2.out.below (below_step HB5.out HB53.out))
  have HBG6:=Aside0.mk (show w3.heap.size≤bg from Nat.le_of_eq HBG.out)
  clear HX5 HR5 HX4 HR4 HX2 HR2 HG2 HP2 HX3 HR3 HV3 HBC HV2 HLG2
  obtain⟨_,_,g0,g1⟩:=Go.Proofs.YtaplpeoikebedaaGreatDoor.PageO.pg_cells HG6.out
  obtain⟨y0,y1,y2,y3,y4,y5,y6,y7,y8,y9⟩:=Go.Proofs.YtaplpeoikebedaaGreatDoor.ChangeT.rec_cells HC3.out
  rw[HC.out] at y0 y1 y2 y3 y4 y5 y6 y7 y8 y9
  simp only at y0 y1 y2 y3 y4 y5 y6 y7 y8 y9
  have hrl:=heap_lt HC3.out
  have hgl:=heap_lt HG6.out
  have HLA:=Aside0.mk (fun (V:World) (hb:Below V3.heap.size V3 V)=>by
    obtain⟨lv,hlg⟩:=(HL3.out.f.below (below_step HBV3.out hb)).sys.log
    exact last_log _ lp dp lv S'.l V hlg)
  have HLA2:=Aside0.mk (fun (V:World) (hb:Below V3.heap.size V3 V) (b:Nat) (o:Obj) (hx:V.heap[b]? = some o)=>(HLA.out V hb).mono (fun e w' hh=>(⟨hh,(hh.2.block b (heap_lt hx)).trans hx⟩:(e = .returned (.int .i64 S'.l.last)∧Below V.heap.size V w')∧w'.heap[b]? = some o)))
  have HRE:=Aside0.mk (fun (V:World) (hb:Below V3.heap.size V3 V)=>by
    have h:=HP6.out.below hb
    have:=redo_calls l0 (S'.l.last+1) (.slice A3 n c3) es c V h HRD.out.2.2 (by rw[HC.out];exact .inr rfl) HRD.out.1 (by rw[HC.out];exact HRD.out.2.1)
    exact this)
  rw[HC.out] at HRE
  simp only[recV] at HRE
  have HRE2:=Aside0.mk (fun (V:World) (hb:Below V3.heap.size V3 V) (b:Nat) (o:Obj) (hx:V.heap[b]? = some o)=>(HRE.out V hb).mono (fun e w' hh=>(⟨hh,(by obtain⟨_,_,_,hb⟩:=hh;exact (hb.block b (heap_lt hx)).trans hx)⟩:(∃v',e = .returned (.tuple #[.agg #[.int .i64 (S'.l.last+1),v'],.bool true,.nilIface])∧P2 w' 169 v' (redoE es ⟨3,rt,rp,xl,nx,ry,true,rh,k,ro⟩)∧Below V.heap.size V w')∧w'.heap[b]? = some o)))
  go_cut [21,14] (fun v21 v14 wx=>v14 = .nilIface∧∃(b:Nat) (sl:Value),v21 = .pointer (some ⟨b,0,none⟩)∧Aside0 (wx.heap[b]? = some (.cells #[.int .i64 (S'.l.last+1),sl] 74 (0,0)))∧Aside0 (P2 wx 169 sl (redoE es c))∧Aside0 (V3.heap.size≤b)∧Aside0 (Below V3.heap.size V3 wx))
  case first=>
    have HKS:=Aside0.mk (fun (W:World) (hb:Below V3.heap.size V3 W)=>(show W.cell? ⟨bg,0,none⟩=some (.int .i64 l0)∧W.cell? ⟨bg,1,none⟩=some (.slice A3 n c3)∧W.cell? ⟨bc,0,none⟩=some (.int .i64 3)∧W.cell? ⟨bc,1,none⟩=some (.int .i64 rt)∧W.cell? ⟨bc,2,none⟩=some (.int .i64 rp)∧W.cell? ⟨bc,3,none⟩=some (.int .i64 xl)∧W.cell? ⟨bc,4,none⟩=some (.int .i64 nx)∧W.cell? ⟨bc,5,none⟩=some (.int .i64 ry)∧W.cell? ⟨bc,6,none⟩=some (.bool true)∧W.cell? ⟨bc,7,none⟩=some (.bool rh)∧W.cell? ⟨bc,8,none⟩=some (.int .i64 k)∧W.cell? ⟨bc,9,none⟩=some (.int .i64 ro) from by
      obtain⟨u0,u1,_,_⟩:=Go.Proofs.YtaplpeoikebedaaGreatDoor.PageO.pg_cells ((hb.block bg hgl).trans HG6.out)
      obtain⟨z0,z1,z2,z3,z4,z5,z6,z7,z8,z9⟩:=Go.Proofs.YtaplpeoikebedaaGreatDoor.ChangeT.rec_cells ((hb.block bc hrl).trans HC3.out)
      rw[HC.out] at z0 z1 z2 z3 z4 z5 z6 z7 z8 z9
      exact⟨u0,u1,z0,z1,z2,z3,z4,z5,z6,z7,z8,z9⟩))
    clear y0 y1 y2 y3 y4 y5 y6 y7 y8 y9 g0 g1
    have hw:=HW.out
    have hgv:bg<V3.heap.size:=heap_lt HG6.out
    obtain⟨u0,u1,z0,z1,z2,z3,z4,z5,z6,z7,z8,z9⟩:=HKS.out V3 (Below.refl _ _)
    have hcv:bc<V3.heap.size:=heap_lt HC3.out
    clear HX6 HR6 HL3 HNX HS3 HF HS HO HI HSET HROK HREC HKD HN HP3 HRD HBV3 HBC3 HBG6 HBX HB3 HB4 HB5 HB53 HBW HP6
    go_region_law (first
      | (go_simp;go_at_call 128;refine (HRE2.out _ ?hb V3.heap.size ?o ?hx).mono ?_;(case hx=>first | with_reducible exact hbo | (simp only[drewH];with_reducible exact hbo));(case hb=>repeat (first | exact hwl | apply below_drew1 | apply below_alloc));rintro e wd ⟨⟨v',rfl,hp7,hb7⟩,hbo2⟩;obtain⟨A7,c7,rfl,_⟩:=ow_slice hp7.1;obtain⟨n7,hn7⟩ : ∃n7,(redoE es ⟨3,rt,rp,xl,nx,ry,true,rh,k,ro⟩).length=n7:=⟨_,rfl⟩;rw[hn7] at hp7 ⊢;have hwd:Below V3.heap.size V3 wd:=below_step (by repeat (first | exact hwl | apply below_drew1 | apply below_alloc)) hb7;obtain⟨o0,o1,g2,g3⟩:=Go.Proofs.YtaplpeoikebedaaGreatDoor.PageO.pg_cells hbo2)
      | (go_simp;go_at_call 128;refine (HRE2.out _ ?hb wl.heap.size ?o ?hx).mono ?_;(case hx=>simp only[drewH,allocH];with_reducible exact Array.getElem?_push_size);(case hb=>repeat (first | exact hwl | apply below_drew1 | apply below_alloc));rintro e wd ⟨⟨v',rfl,hp7,hb7⟩,hbo2⟩;obtain⟨A7,c7,rfl,_⟩:=ow_slice hp7.1;obtain⟨n7,hn7⟩ : ∃n7,(redoE es ⟨3,rt,rp,xl,nx,ry,true,rh,k,ro⟩).length=n7:=⟨_,rfl⟩;rw[hn7] at hp7 ⊢;have hwd:Below V3.heap.size V3 wd:=below_step (by repeat (first | exact hwl | apply below_drew1 | apply below_alloc)) hb7;obtain⟨o0,o1,g2,g3⟩:=Go.Proofs.YtaplpeoikebedaaGreatDoor.PageO.pg_cells hbo2)
      | (go_simp;go_at_call 128;refine (HRE.out _ ?hb).mono ?_;(case hb=>repeat (first | exact hwl | apply below_drew1 | apply below_alloc));rintro e wd ⟨v',rfl,hp7,hb7⟩;obtain⟨A7,c7,rfl,_⟩:=ow_slice hp7.1;obtain⟨n7,hn7⟩ : ∃n7,(redoE es ⟨3,rt,rp,xl,nx,ry,true,rh,k,ro⟩).length=n7:=⟨_,rfl⟩;rw[hn7] at hp7 ⊢;have hwd:Below V3.heap.size V3 wd:=below_step (by repeat (first | exact hwl | apply below_drew1 | apply below_alloc)) hb7)
      | (go_simp;go_at_call 24;refine (HLA2.out _ ?hb V3.heap.size ?o ?hx).mono ?_;(case hx=>simp only[drewH,allocH];with_reducible exact Array.getElem?_push_size);(case hb=>repeat (first | exact Below.refl _ _ | apply below_drew1 | apply below_alloc));rintro e wl ⟨⟨rfl,hbl⟩,hbo⟩;have hbod:(World.drew wl).heap[V3.heap.size]? = _:=hbo;have hwl:Below V3.heap.size V3 wl:=below_step (by repeat (first | exact Below.refl _ _ | apply below_drew1 | apply below_alloc)) hbl;obtain⟨p0,p1,q0,q1,q2,q3,q4,q5,q6,q7,q8,q9⟩:=HKS.out wl hwl;have hcl:=Nat.lt_of_lt_of_le hcv hwl.size;have hgl2:=Nat.lt_of_lt_of_le hgv hwl.size)
      | (go_simp;go_at_call 24;refine (HLA.out _ ?hb).mono ?_;(case hb=>repeat (first | exact Below.refl _ _ | apply below_drew1 | apply below_alloc));rintro e wl ⟨rfl,hbl⟩;have hwl:Below V3.heap.size V3 wl:=below_step (by repeat (first | exact Below.refl _ _ | apply below_drew1 | apply below_alloc)) hbl;obtain⟨p0,p1,q0,q1,q2,q3,q4,q5,q6,q7,q8,q9⟩:=HKS.out wl hwl;have hcl:=Nat.lt_of_lt_of_le hcv hwl.size;have hgl2:=Nat.lt_of_lt_of_le hgv hwl.size))
    all_goals
      first
        | (rw[show (wd.setCell ⟨V3.heap.size,0,none⟩ (.int .i64 (S'.l.last+1))).setCell ⟨V3.heap.size,1,none⟩ (.slice A7 n7 c7)=pgPut wd V3.heap.size (S'.l.last+1) (.slice A7 n7 c7) from rfl]
           have HH1:=Aside0.mk (pgPut_heap hbo2 (S'.l.last+1) (.slice A7 n7 c7))
           have HH2:=Aside0.mk (pgPut_below hwd (Nat.le_refl _) (S'.l.last+1) (.slice A7 n7 c7))
           have HH3:=Aside0.mk (p2_but hp7 (b:=V3.heap.size) (fun j hj=>pgPut_other hj (S'.l.last+1) (.slice A7 n7 c7)) (by rw[tag_of hbo2];decide))
           have HH4:=Aside0.mk (Nat.le_refl V3.heap.size)
           generalize pgPut wd V3.heap.size (S'.l.last+1) (.slice A7 n7 c7)=we at HH1 HH2 HH3 ⊢
           go_wp2_with fail
           go_meet
           exact⟨rfl,_,_,rfl,HH1,⟨by rw[HC.out];exact HH3.out⟩,HH4,HH2⟩)
        | (rw[show (wd.setCell ⟨wl.heap.size,0,none⟩ (.int .i64 (S'.l.last+1))).setCell ⟨wl.heap.size,1,none⟩ (.slice A7 n7 c7)=pgPut wd wl.heap.size (S'.l.last+1) (.slice A7 n7 c7) from rfl]
           have HH1:=Aside0.mk (pgPut_heap hbo2 (S'.l.last+1) (.slice A7 n7 c7))
           have HH2:=Aside0.mk (pgPut_below hwd hwl.size (S'.l.last+1) (.slice A7 n7 c7))
           have HH3:=Aside0.mk (p2_but hp7 (b:=wl.heap.size) (fun j hj=>pgPut_other hj (S'.l.last+1) (.slice A7 n7 c7)) (by rw[tag_of hbo2];decide))
           have HH4:=Aside0.mk hwl.size
           generalize pgPut wd wl.heap.size (S'.l.last+1) (.slice A7 n7 c7)=we at HH1 HH2 HH3 ⊢
           go_wp2_with fail
           go_meet
           exact⟨rfl,_,_,rfl,HH1,⟨by rw[HC.out];exact HH3.out⟩,HH4,HH2⟩)
        | (have HH1:=Aside0.mk (heap_alloc_new wd (.cells #[.int .i64 (S'.l.last+1),.slice A7 n7 c7] 74))
           have HH2:=Aside0.mk (below_alloc hwd (.cells #[.int .i64 (S'.l.last+1),.slice A7 n7 c7] 74))
           have HH3:=Aside0.mk (hp7.below (below_alloc (Below.refl _ _) (.cells #[.int .i64 (S'.l.last+1),.slice A7 n7 c7] 74)))
           have HH4:=Aside0.mk hwd.size
           generalize wd.alloc (.cells #[.int .i64 (S'.l.last+1),.slice A7 n7 c7] 74)=we at HH1 HH2 HH3 ⊢
           go_wp2_with fail
           go_meet
           exact⟨rfl,_,_,rfl,HH1,⟨by rw[HC.out];exact HH3.out⟩,HH4,HH2⟩)
  case rest=>
    obtain⟨rfl,bo,slo,rfl,HOB,HOP,HOG,HBC5⟩:=hcut
    generalize wc=V5 at HOB HOP HBC5 ⊢
    obtain⟨R1,HL1,HN1,HO1⟩ : ∃R1,Aside0 (LB M sp lp pp dp qp mp blocks frames { F with S:=S' } w V0 R1 w3)∧Aside0 (¬R1 bx∧¬R1 br)∧Aside0 (SentsAll w3 a∧OutAll R1 a):=⟨_,HL3,HNX,HS3⟩
    obtain⟨A7,c7,rfl,_⟩:=ow_slice HOP.out.1
    obtain⟨n7,hn7⟩ : ∃n7,(redoE es c).length=n7:=⟨_,rfl⟩
    rw[hn7] at HOP HOB
    clear hn7 g0 g1 y0 y1 y2 y3 y4 y5 y6 y7 y8 y9 hrl hgl HL3 HNX HS3 HRE HLA HP6 HG6
    have HB5:=Aside0.mk (below_step HBV3.out HBC5.out)
    have HL5:=Aside0.mk (LB.start ((FwM.cut HL1.out.f).below HB5.out) (Below.refl _ _))
    have HSS:=Aside0.mk (And.intro (HO1.out.1.below HB5.out) (OutAll.sub (M':=Cut R1 w3.heap.size) HO1.out.2 fun k hk=>hk.1))
    have HX7:=Aside0.mk ((HBC5.out.block _ (heap_lt HX6.out)).trans HX6.out)
    have HR7:=Aside0.mk ((HBC5.out.block _ (heap_lt HR6.out)).trans HR6.out)
    have HC7:=Aside0.mk ((HBC5.out.block _ (heap_lt HC3.out)).trans HC3.out)
    have hw35:w3.heap.size≤V3.heap.size:=HBV3.out.size
    have HNB:=Aside0.mk (show ¬Cut R1 w3.heap.size bx∧¬Cut R1 w3.heap.size br∧¬Cut R1 w3.heap.size bo from⟨fun hc=>HN1.out.1 hc.1,fun hc=>HN1.out.2 hc.1,fun hc=>by have:=hc.2;have:=HOG.out;omega⟩)
    clear HX6 HR6 HC3 HN1 hw35
    have HAP:=Aside0.mk (show Calls Tryz.prog 63 #[.pointer (some ⟨lp,0,none⟩),recV c] V5 (fun e w'=>e = .returned (.tuple #[.int .i64 (S'.l.last+1),.nilIface])∧∃R,LB (Cut R1 w3.heap.size) sp lp pp dp qp mp blocks frames { F with S:=addRec S' c } V5 V5 R w') from by
      obtain⟨hs1,hs2⟩:=HSS.out
      obtain⟨lv,hlg⟩:=HL5.out.f.sys.log
      have:=append_log a _ lp dp lv S'.l c V5 (hs1.k _ (by decide)) hlg
      exact this.mono fun e w' hh=>by
        obtain⟨rfl,v3,hl3,hf3⟩:=hh
        rw[HROK.out.2.2] at hl3
        rw[HROK.out.1,HROK.out.2.1,show errv a none = .nilIface from rfl]
        exact⟨rfl,_,HL5.out.step (FwM.lg HL5.out.f ⟨v3,hl3⟩ hf3)⟩)
    rw[show recV c = .agg #[.int .i64 3,.int .i64 rt,.int .i64 rp,.int .i64 xl,.int .i64 nx,.int .i64 ry,.bool true,.bool rh,.int .i64 k,.int .i64 ro] from by rw[HC.out]] at HAP
    obtain⟨y0,y1,y2,y3,y4,y5,y6,y7,y8,y9⟩:=Go.Proofs.YtaplpeoikebedaaGreatDoor.ChangeT.rec_cells HC7.out
    rw[HC.out] at y0 y1 y2 y3 y4 y5 y6 y7 y8 y9
    simp only at y0 y1 y2 y3 y4 y5 y6 y7 y8 y9
    have hcl:=heap_lt HC7.out
    go_wp2_with fail
    refine HAP.out.mono ?_
    rintro e V6 ⟨rfl,R6,hl6⟩
    have HL6:=Aside0.mk hl6
    clear hl6 y0 y1 y2 y3 y4 y5 y6 y7 y8 y9 hcl
    go_wp2_with fail
    refine (spend_space _ qp F.free F.kept 1 _ HL6.out.f.room HL6.out.f.low.2.1 (by omega) HI.out.kept.1 HI.out.kept.2).mono ?_
    rintro e V7 ⟨rfl,hs7,hf7⟩
    have HL7:=Aside0.mk (HL6.out.step (FwM.spc HL6.out.f hs7 hf7))
    clear hs7 hf7
    obtain⟨cs,tv,htx,hput⟩:=FwM.txs HL7.out.f HI.out.ris2
    have HTX:=Aside0.mk htx
    have HPT:=Aside0.mk hput
    clear htx hput
    obtain⟨x0,x1,x2,x3,_,_,_,_⟩:=tx_cells (HL7.out.k.at HX7.out HNB.out.1)
    have hxl:=heap_lt (HL7.out.k.at HX7.out HNB.out.1)
    go_wp2_with fail
    refine (tnote_calls _ sp 8 118 cs tv F.ts F.most xi (S'.l.last+1) nx _ HTX.out HI.out.has_).mono ?_
    rintro e V8 ⟨rfl,hpost⟩
    have HL8:=Aside0.mk (HL7.out.step (HPT.out _ _ _ (Int.le_refl _) hpost))
    clear hpost x0 x1 x2 x3 hxl HTX HPT
    have y2:=(Go.Proofs.YtaplpeoikebedaaGreatDoor.ChangeT.rec_cells (HL8.out.k.at HR7.out HNB.out.2.1)).2.2.1
    have hrl:=heap_lt (HL8.out.k.at HR7.out HNB.out.2.1)
    simp only at y2
    obtain⟨_,_,g0,g1⟩:=Go.Proofs.YtaplpeoikebedaaGreatDoor.PageO.pg_cells (HL8.out.k.at HOB.out HNB.out.2.2)
    have hgl:=heap_lt (HL8.out.k.at HOB.out HNB.out.2.2)
    have HP8:=Aside0.mk (p2_kp HOP.out HL8.out.k)
    obtain⟨hs8,ho8⟩:=HL8.out.sents HSS.out.1 HSS.out.2
    have HSP:=Aside0.mk (set_pool a _ pp lp dp (addRec S' c) rp (S'.l.last+1) (.slice A7 n7 c7) (redoE es c) V8 (hs8.k _ (by decide)) HL8.out.f.sys HP8.out HI.out.few)
    unfold PSetPost at HSP
    rw[HSET.out] at HSP
    clear hs8 ho8
    go_wp2_with fail
    refine HSP.out.mono ?_
    rintro e V9 ⟨rfl,hx9,hf9⟩
    have HL9:=Aside0.mk (HL8.out.step (FwM.sy HL8.out.f hx9 hf9))
    clear hx9 hf9 y2 hrl g0 g1 hgl
    have HFIN:=Aside0.mk (LB.fin HL1.out HB5.out HL9.out.post)
    have HEQ:=Aside0.mk (backF_eq (id:=xi) (k:=k) (nx:=nx) HI.out.get)
    go_wp2_with fail
    go_ret
    rw[HEQ.out]
    exact⟨rfl,HFIN.out⟩
end Go.Proofs.YtaplpeoikebedaaGreatDoor.BackS
namespace Go.Proofs.YtaplpeoikebedaaGreatDoor.BackU
open Go.RowKit Go.Maps YtaplpeoikebedaaGreatDoorW.PrintWords YtaplpeoikebedaaGreatDoorW.PrintLast YtaplpeoikebedaaGreatDoorW.PrintMore
open See Mem Clone Go.Proofs.YtaplpeoikebedaaGreatDoor.Cell Page PageB PageR Disk Dirty Pool2 RecD Wal WalF PoolG PoolS SysD SysM StoreD StoreF StoreH TransT LockT LockU SpaceT WaitT FwdM FwdP FwdC FwdE FwdT BackD BackL BackS BackM BackW BackV
attribute [local go_sem] max2_imax min2_imin max_two min_two
theorem parts_calls (M:Nat→Prop)(sp lp pp dp qp mp:Nat)(blocks frames:Int)(F:FS)(w:World)(h:FwM M w sp lp pp dp qp mp blocks frames F) :
    Calls Tryz.prog 88 #[.pointer (some ⟨sp,0,none⟩)] w fun e w'=>e = .returned (.tuple #[.pointer (some ⟨lp,0,none⟩),.pointer (some ⟨pp,0,none⟩),.pointer (some ⟨sp,8,none⟩),.pointer (some ⟨qp,0,none⟩)])∧Below w.heap.size w w':=by
  obtain⟨_,_,k4,k5,_,_,k10,_⟩:=h.cells
  have hspl:sp<w.heap.size:=by obtain⟨kv,tv,b1,_⟩:=h.box;exact heap_lt b1
  clear h
  go_enter Tryz.func88,Tryz.ntmps88
  go_wp2_with fail
  go_quiet (fail)
  have HB:=Aside0.mk (pw_below_drewN (Below.refl w.heap.size w) nq)
  go_wp2_with fail
  exact bodyPost_ret (v:=.tuple #[.pointer (some ⟨lp,0,none⟩),.pointer (some ⟨pp,0,none⟩),.pointer (some ⟨sp,8,none⟩),.pointer (some ⟨qp,0,none⟩)]) (by simp[results,Tryz.results88,go_sem]) rfl ⟨rfl,HB.out⟩
theorem undo_calls (a:Nat→Addr)(M R:Nat→Prop)(bp bm sp lp pp dp qp mp:Nat)(blocks frames:Int)(B:BSt)(sl:Int→Value)(id tg hint:Int)(N m:Nat)(ch:Int→List Int)(kp:Int→Int)(pre rest:List Int)(w:World)(h:BkIn M w bp bm sp lp pp dp qp mp blocks frames B R sl)(hok:FOk N m ch kp B.F)(hid:thas B.F.ts id=true)(hch:ch id=pre++rest)(hto:tg=rest.headD 0)(hkp : ∀x,0≤kp x)(hm:m+pre.length≤30000)(hfr:B.F.S.frames≤8)(hs:SentsAll w a)(hO:OutAll M a)(hh0 : -9223372036854775808≤hint)(hh1:hint≤9223372036854775807) :
    Calls Tryz.prog 89 #[.pointer (some ⟨bp,0,none⟩),.int .i64 id,.int .i64 tg,.int .i64 hint] w fun e w'=>e = .returned .nilIface∧∃F',UndoR N m ch kp B.F id pre rest F'∧FwPost R sp lp pp dp qp mp blocks frames F' w w':=by
  have HF:=Aside0.mk h.f
  have HS:=Aside0.mk hs
  have HO:=Aside0.mk (OutAll.sub (M':=R) hO fun k hk=>(h.r k hk).1)
  have HU0:=Aside0.mk (show UndoR N m ch kp B.F id [] (pre++rest) B.F from by rw[←hch];exact UndoR.refl hok hid)
  have HOK:=Aside0.mk hok
  have HCH:=Aside0.mk hch
  have HID:=Aside0.mk hid
  have HTO:=Aside0.mk hto
  have HKP:=Aside0.mk hkp
  have HM:=Aside0.mk hm
  have HFR:=Aside0.mk hfr
  have HHB:=Aside0.mk (And.intro hh0 hh1)
  have HST:=Aside0.mk (show ∀k∈pre,(k≠rest.headD 0∧k≠0)∧∃r,recOf B.F.S.l k=some r from fun k hk=>by
    obtain⟨hx,hxid⟩:=tget_mem hid
    have hc:=(hok.c.last _ hx).1
    rw[hxid,hch] at hc
    refine⟨Chain.stop hc k hk,?_⟩
    obtain⟨_,r,hr,_⟩:=hc.at_ k (List.mem_append_left _ hk)
    exact⟨r,hr⟩)
  have c0:=h.cells.1
  have hbl:=heap_lt h.box
  clear h hok hid hch hto hkp hm hfr hs hO hh0 hh1
  go_enter Tryz.func89,Tryz.ntmps89
  go_wp2_with fail
  refine (parts_calls _ sp lp pp dp qp mp blocks frames B.F w HF.out).mono ?_
  rintro e w1 ⟨rfl,hb⟩
  have HP1:=Aside0.mk (FwPost.step (FwPost.refl HF.out) hb)
  clear hb c0 hbl
  go_wp2_with fail
  go_loopg [] (pre.length+1) (fun kq w' => ∃(d q:List Int) (F':FS),Aside0 (pre=d++q∧kq=q.length+1)∧Aside0 (UndoR N m ch kp B.F id d (q++rest) F')∧Aside0 (FwPost R sp lp pp dp qp mp blocks frames F' w w'))
  case atStart=>exact⟨[],pre,B.F,⟨rfl,rfl⟩,HU0,HP1⟩
  case round=>
    obtain⟨d,q,F',HD,HU,HP⟩:=hrel
    obtain⟨kv,tv,b1,_,_,b4,_⟩:=HP.out.1.box
    have HG:=Aside0.mk (by
      have:=tget_calls sp 8 tv F'.ts id wr b4 HU.out.ok.t.rise (show wr.cell? ⟨sp,8,none⟩=some tv by simp[World.cell?,b1,fwCells])
      rw[HU.out.has_] at this
      exact this)
    clear b1 b4
    have hnx:(tget F'.ts id).next=(q++rest).headD 0:=by
      obtain⟨hx,hxid⟩:=tget_mem HU.out.has_
      have:=HU.out.ok.c.next _ hx
      rw[hxid] at this
      rw[this]
      unfold updc
      rw[if_pos rfl]
    obtain⟨x,hxx⟩ : ∃x,tget F'.ts id=x:=⟨_,rfl⟩
    have HXX:=Aside0.mk hxx
    rw[hxx] at HG hnx
    obtain⟨xi,xs,xl,xn⟩:=x
    simp only[txV] at HG
    simp only at hnx
    clear hxx
    have HSR:=Aside0.mk (SentsAll.kp HS.out HP.out.2 HO.out)
    have HOR:=Aside0.mk (OutAll.gr (w':=wr) HO.out HS.out)
    cases q with
    | nil=>
      have HD2:=Aside0.mk (show d=pre by have:=HD.out.1;rw[this,List.append_nil])
      have hxt:xn=tg:=by rw[HTO.out];exact hnx
      subst hxt
      go_wp2_with fail
      refine HG.out.mono ?_
      rintro e w2 ⟨rfl,hb⟩
      have HB2:=Aside0.mk hb
      clear hb
      go_wp2_with fail
      go_ret
      refine⟨rfl,F',?_,FwPost.step HP.out (below_alloc HB2.out _)⟩
      have:=HU.out
      rw[HD2.out] at this
      exact this
    | cons k q=>
      have hxk:xn=k:=hnx
      subst hxk
      clear hnx
      have hkm:xn∈pre:=by rw[HD.out.1];exact List.mem_append_right _ List.mem_cons_self
      obtain⟨⟨hs1,hs2⟩,hrec⟩:=HST.out xn hkm
      have hkt:(xn == tg)=false:=by
        rw[HTO.out]
        exact beq_eq_false_iff_ne.2 hs1
      have hk0:(xn == 0)=false:=beq_eq_false_iff_ne.2 hs2
      have hdl:d.length+(xn :: q).length=pre.length:=by rw[HD.out.1,List.length_append]
      obtain⟨S',r,hi,hu⟩:=UndoR.step (ks:=q++rest) hint HU.out hrec HKP.out (by have:=HM.out;simp at hdl;omega) HFR.out
      have HI:=Aside0.mk hi
      have HU2:=Aside0.mk hu
      have HDL:=Aside0.mk hdl
      clear hi hu hrec hs1 hs2 hkm hdl
      go_wp2_with fail
      refine HG.out.mono ?_
      rintro e w2 ⟨rfl,hb⟩
      obtain⟨W,hW⟩ : ∃W,w2.alloc (.cells #[.int .i64 xi,.int .i64 xs,.int .i64 xl,.int .i64 xn] 102)=W:=⟨_,rfl⟩
      have HBW:=Aside0.mk (show Below wr.heap.size wr W from below_step hb (show Below w2.heap.size w2 W by rw[←hW];exact below_alloc (Below.refl _ _) _))
      obtain⟨bx,hbx⟩ : ∃b,w2.heap.size=b:=⟨_,rfl⟩
      have HXB:=Aside0.mk (show W.heap[bx]? = some (.cells #[.int .i64 xi,.int .i64 xs,.int .i64 xl,.int .i64 xn] 102 (0,0)) from by rw[←hW,←hbx];exact heap_alloc_new _ _)
      have HWN:=Aside0.mk (And.intro hW hbx)
      clear hW hbx hb
      go_upto_region 3 with fail
      rw[HWN.out.1,HWN.out.2]
      obtain⟨x0,x1,x2,x3,_,_,_,_⟩:=tx_cells HXB.out
      have hxl:=heap_lt HXB.out
      have HSB:=Aside0.mk (by
        have:=sback_calls a (Gr R w wr) sp lp pp dp qp mp blocks frames F' id xn ((q++rest).headD 0) r hint S' W (HP.out.1.below HBW.out) (HSR.out.below HBW.out) HOR.out HI.out HHB.out.1 HHB.out.2
        rw[HXX.out] at this
        exact this)
      simp only[txV] at HSB
      go_wp2_with fail
      refine HSB.out.mono ?_
      rintro e w3 ⟨rfl,hp3⟩
      have HP3:=Aside0.mk (FwPost.trans HP.out fun _=>hp3.back HBW.out)
      clear hp3 x0 x1 x2 x3 hxl
      go_wp2_with fail
      go_roundg (q.length+1)
      case measure=>have:=HD.out.2;simp at this;omega
      case rel=>exact⟨d++[xn],q,_,⟨by rw[HD.out.1,List.append_assoc];rfl,rfl⟩,HU2,HP3⟩
end Go.Proofs.YtaplpeoikebedaaGreatDoor.BackU
namespace Go.Proofs.YtaplpeoikebedaaGreatDoor.StoreV
open Go.RowKit See Mem Page PageB PageR PageL Disk DiskW RecD Dirty Dirty2 SysD SysM Wal WalF GoodD PoolG PoolS FlushG Fresh DirtD Pager StoreD PageM StoreF StoreG StoreH LockT LockU StoreI StoreJ
end Go.Proofs.YtaplpeoikebedaaGreatDoor.StoreV
