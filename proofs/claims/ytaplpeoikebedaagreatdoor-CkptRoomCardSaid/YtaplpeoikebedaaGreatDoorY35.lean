/- Joined texts: FwdQ, BackQ, FullD, CkptD, MasC, MasT. No condition but what each says. -/
import Derived.Test.YtaplpeoikebedaaGreatDoorY32
import Derived.Test.YtaplpeoikebedaaGreatDoorY34
import Derived.Test.YtaplpeoikebedaaGreatDoorY29
import Derived.Test.YtaplpeoikebedaaGreatDoorY33
import Derived.Test.YtaplpeoikebedaaGreatDoorY18
import Derived.Test.YtaplpeoikebedaaGreatDoorY9
import Derived.Test.YtaplpeoikebedaaGreatDoorY8
set_option maxHeartbeats 8000000
set_option maxRecDepth 100000
set_option linter.unusedVariables false
set_option linter.unusedSimpArgs false
namespace Go.Proofs.YtaplpeoikebedaaGreatDoor.FwdQ
open Go.RowKit Go.Maps YtaplpeoikebedaaGreatDoorW.PrintWords YtaplpeoikebedaaGreatDoorW.PrintLast YtaplpeoikebedaaGreatDoorW.PrintMore
open See Mem Page Disk DiskN DiskW RecD Dirty Wal SysD SysM StoreD StoreF StoreH TransT LockT LockU LockF LockG SpaceT WaitT FwdM FwdP FwdC FwdN EndT
attribute [local go_sem] max2_imax min2_imin max_two min_two
def leaveG (F:FS)(n id:Int):FS:={ F with S:=addRec F.S (recMark (tget F.ts id) 6),kept:=F.kept - 1,ts:=tdrop F.ts id,ks:=freeL F.ks n,of:=upd F.of n 0 }
theorem leave2_calls (a:Nat→Addr)(M:Nat→Prop)(sp lp pp dp qp mp:Nat)(blocks frames:Int)(F:FS)(n id:Int)(w:World)(h:FwM M w sp lp pp dp qp mp blocks frames F)(hs:SentsAll w a)(hO:OutAll M a)(h0:0≤n)(h1:n≤1000)(hof:F.of n=id)(hid:thas F.ts id=true)(hr:Rising (kvT F.ts))(htid:(tget F.ts id).id=id)(hk:1≤F.kept∧F.kept≤1073741824)(hrec:recOk (recMark (tget F.ts id) 6)=true)(hroom:1≤F.S.l.room) :
    Calls Tryz.prog 77 #[.pointer (some ⟨sp,0,none⟩),.int .i64 n] w fun e w'=>e = .returned .nilIface∧FwPost M sp lp pp dp qp mp blocks frames (leaveG F n id) w w':=by
  have HF:=Aside0.mk (fun (W:World) (hb:Below w.heap.size w W)=>h.below hb)
  obtain⟨kv,tv,b1,_,_,b4,_⟩:=h.box
  have HG:=Aside0.mk (fun (W:World) (hb:Below w.heap.size w W)=>by
    have:=tget_calls sp 8 tv F.ts id W (b4.below hb) hr (pw_cell_below hb (show w.cell? ⟨sp,8,none⟩=some tv by simp[World.cell?,b1,fwCells]))
    rw[hid] at this
    exact this)
  have hspl:=heap_lt b1
  have HEND:=Aside0.mk (show ∀(V:World),Below w.heap.size w V→Calls Tryz.prog 136 #[.pointer (some ⟨lp,0,none⟩),.pointer (some ⟨sp,8,none⟩),.pointer (some ⟨qp,0,none⟩),txV (tget F.ts id)] V fun e w'=>e = .returned .nilIface∧FwPost M sp lp pp dp qp mp blocks frames { addK F (recMark (tget F.ts id) 6) with ts:=tdrop F.ts id } w w' from fun V hb=>
    (end_calls a M sp lp pp dp qp mp blocks frames F id V (h.below hb) (hs.below hb) hO hid hr htid hk hrec hroom).mono fun e w' hh=>⟨hh.1,hh.2.back hb⟩)
  have HWF:=Aside0.mk (wf64 (n:=n) (by omega) (by omega))
  obtain⟨x,hxx⟩ : ∃x,tget F.ts id=x:=⟨_,rfl⟩
  have HXX:=Aside0.mk hxx
  rw[hxx] at HG HEND
  have hlk:=OfM.look h.of (s:=n) (by omega) (by omega)
  have hlk2:=OfM.look (HF.out (w.alloc z4) (below_alloc (Below.refl _ _) _)).of (s:=n) (by omega) (by omega)
  have hlk3:=OfM.look (HF.out w.drew (below_drew1 (Below.refl _ _))).of (s:=n) (by omega) (by omega)
  have hlk4:=OfM.look (HF.out (w.alloc z4).drew (below_drew1 (below_alloc (Below.refl _ _) _))).of (s:=n) (by omega) (by omega)
  have hlk5:=OfM.look (HF.out (w.drew.alloc z4) (below_alloc (below_drew1 (Below.refl _ _)) _)).of (s:=n) (by omega) (by omega)
  rw[hof] at hlk hlk2 hlk3 hlk4 hlk5
  obtain⟨_,_,k4,_,k7,_,k10,k11⟩:=h.cells
  have HC:=Aside0.mk (And.intro k4 k10)
  have HN:=Aside0.mk (And.intro h0 h1)
  have HH:=Aside0.mk h
  have HG2:=Aside0.mk (fun (V:World) (hb:Below w.heap.size w V) (b:Nat) (o:Obj) (hx:V.heap[b]? = some o)=>(HG.out V hb).mono (fun e w' h=>(⟨h.1,h.2,(h.2.block b (heap_lt hx)).trans hx⟩:e = .returned (.tuple #[txV x,.bool true])∧Below V.heap.size V w'∧w'.heap[b]? = some o)))
  obtain⟨xi,xs,xl,xn⟩:=x
  simp only[txV,z4] at *
  clear h hs hO hof hid hr htid hk hrec hroom hxx b1 b4 k4 k10 h0 h1
  go_enter Tryz.func77,Tryz.ntmps77
  go_upto_region 1 with fail
  go_cut [5,6] (fun v5 v6 wx=>v6 = .bool true∧∃b,v5 = .pointer (some ⟨b,0,none⟩)∧Aside0 (wx.heap[b]? = some (.cells #[.int .i64 xi,.int .i64 xs,.int .i64 xl,.int .i64 xn] 102 (0,0)))∧Aside0 (Below w.heap.size w wx))
  case first=>
    go_region_law (first
      | (go_simp;go_at_call 113;refine (HG2.out _ (by repeat (first | exact Below.refl _ _ | apply below_drew1 | apply below_alloc)) w.heap.size _ (by exact heap_alloc_new w _)).mono ?_;rintro e w2 ⟨rfl,hb2,hbo⟩;obtain⟨o0,o1,o2,o3,g0,g1,g2,g3⟩:=tx_cells hbo)
      | (go_simp;go_at_call 113;refine (HG.out _ (by repeat (first | exact Below.refl _ _ | apply below_drew1 | apply below_alloc))).mono ?_;rintro e w2 ⟨rfl,hb2⟩))
    all_goals
      have hbw:Below w.heap.size w w2:=below_step (by repeat (first | exact Below.refl _ _ | apply below_drew1 | apply below_alloc)) hb2
      first
        | (rw[show (((w2.setCell ⟨w.heap.size,0,none⟩ (.int .i64 xi)).setCell ⟨w.heap.size,1,none⟩ (.int .i64 xs)).setCell ⟨w.heap.size,2,none⟩ (.int .i64 xl)).setCell ⟨w.heap.size,3,none⟩ (.int .i64 xn)=txPut w2 w.heap.size ⟨xi,xs,xl,xn⟩ from rfl]
           have HH1:=Aside0.mk (txPut_heap hbo ⟨xi,xs,xl,xn⟩)
           have HH2:=Aside0.mk (txPut_below hbw (Nat.le_refl _) ⟨xi,xs,xl,xn⟩)
           clear o0 o1 o2 o3 g0 g1 g2 g3 hbo hb2 hbw hlk hlk2 hlk3 hlk4 hlk5
           generalize txPut w2 w.heap.size ⟨xi,xs,xl,xn⟩=wd at HH1 HH2 ⊢)
        | (have HH1:=Aside0.mk (heap_alloc_new w2 (.cells #[.int .i64 xi,.int .i64 xs,.int .i64 xl,.int .i64 xn] 102))
           have HH2:=Aside0.mk (below_alloc hbw (.cells #[.int .i64 xi,.int .i64 xs,.int .i64 xl,.int .i64 xn] 102))
           clear hb2 hbw hlk hlk2 hlk3 hlk4 hlk5
           generalize w2.alloc (.cells #[.int .i64 xi,.int .i64 xs,.int .i64 xl,.int .i64 xn] 102)=wd at HH1 HH2 ⊢)
      go_wp2_with fail
      go_meet
      exact⟨rfl,_,rfl,HH1,HH2⟩
  case rest=>
    obtain⟨rfl,b,rfl,HXB,HBC⟩:=hcut
    clear hlk hlk2 hlk3 hlk4 hlk5 k7 k11
    generalize wc=V0 at HXB HBC ⊢
    have j4:=pw_cell_below HBC.out HC.out.1
    have j10:=pw_cell_below HBC.out HC.out.2
    obtain⟨x0,x1,x2,x3,_,_,_,_⟩:=tx_cells HXB.out
    go_upto_region 2 with fail
    go_cut [7] (fun v7 wx=>v7 = .nilIface∧Aside0 (FwPost M sp lp pp dp qp mp blocks frames { addK F (recMark (tget F.ts id) 6) with ts:=tdrop F.ts id } w wx))
    case first=>
      go_region_law (first
        | (go_simp;go_at_call 136;refine (HEND.out _ (by repeat (first | exact HBC.out | apply below_drew1))).mono ?_;rintro e w4 ⟨rfl,hp4⟩;have HP4:=Aside0.mk hp4;clear hp4))
      all_goals
        go_wp2_with fail
        go_meet
        exact⟨rfl,by rw[HXX.out];exact HP4⟩
    case rest=>
      obtain⟨rfl,HP4⟩:=hcut
      generalize wc=V1 at HP4 ⊢
      clear j4 j10 x0 x1 x2 x3
      obtain⟨cs,kv2,hlk,hput⟩:=FwM.lks HP4.out.1
      have HLK:=Aside0.mk hlk
      have HPT:=Aside0.mk hput
      clear hlk hput
      go_wp2_with fail
      refine (free2_calls _ sp 6 118 cs kv2 F.ks n _ HLK.out).mono ?_
      rintro e w5 ⟨rfl,hpost⟩
      have HP5:=Aside0.mk (HPT.out _ _ hpost)
      clear hpost HLK HPT
      have j7:=HP5.out.1.cells.2.2.2.2.1
      go_wp2_with fail
      refine (wgone_nil sp 7 n _ j7 (by have:=HN.out;omega) (by have:=HN.out;omega)).mono ?_
      rintro e w6 ⟨rfl,hb6⟩
      have HP6:=Aside0.mk (FwPost.step HP5.out hb6)
      clear hb6 j7
      have j11:=HP6.out.1.cells.2.2.2.2.2.2.2
      obtain⟨n0,D,hown,hn0,hat⟩:=HP6.out.1.of
      have HOWN:=Aside0.mk hown
      have HAT:=Aside0.mk hat
      have HN0:=Aside0.mk hn0
      clear hown hat hn0
      go_wp2_with (first | (at_delete;refine wpList_delete_own _ rfl _ _ 116 3 rfl 3 (int_keyed Tryz.underlying3) Tryz.underlying116 _ mp n0 D rfl HOWN.out _ _ rfl (keyOf_int_mk Tryz.underlying3 HWF.out) ?_;intro w7 hown7 hg7))
      have HO7:=Aside0.mk (ofm_del (m:=F.most) HOWN.out HAT.out hown7 HN0.out)
      have HP7:=Aside0.mk (FwM.mp_ HP6.out.1 HO7.out hg7.grown)
      clear hown7 hg7 j11
      have HPA:=Aside0.mk (FwPost.trans HP4.out fun _=>FwPost.trans HP6.out fun _=>HP7.out)
      go_ret
      exact⟨rfl,HPA.out⟩
end Go.Proofs.YtaplpeoikebedaaGreatDoor.FwdQ
namespace Go.Proofs.YtaplpeoikebedaaGreatDoor.BackQ
open Go.RowKit Go.Maps YtaplpeoikebedaaGreatDoorW.PrintWords YtaplpeoikebedaaGreatDoorW.PrintLast YtaplpeoikebedaaGreatDoorW.PrintMore
open See Mem Clone Go.Proofs.YtaplpeoikebedaaGreatDoor.Cell Page PageB PageR Disk Dirty Pool2 RecD Rec Wal WalF PoolG PoolS SysD SysM StoreD StoreF StoreH TransT LockT LockU SpaceT WaitT FwdM FwdP FwdC FwdE FwdT FwdB EndT FwdL BackD BackL BackA BackM BackW BackV BackU BackB FwdQ StoreG StoreI StoreJ StoreK PageM
attribute [local go_sem] max2_imax min2_imin max_two min_two
structure AbortQ (N m:Nat) (ch:Int→List Int) (kp:Int→Int) (F:FS) (n id:Int) (F':FS):Prop where
  ok:FOk N (m+(ch id).length) (updc ch id []) (updk kp id 1) F'
  vals_ : ∀j,vals F' j=rewV F.S.l (ch id) (vals F) j
  same:F'.P=F.P∧F'.sess=F.sess∧F'.ks=freeL F.ks n∧F'.most=F.most∧F'.of=upd F.of n 0∧F'.free=F.free∧F'.S.frames=F.S.frames
  old : ∀n r,recOf F.S.l n=some r→recOf F'.S.l n=some r
theorem abort_end2 {N m:Nat}{ch:Int→List Int}{kp:Int→Int}{F F2:FS}{n id:Int}(h:FOk N m ch kp F)(hof:F.of n=id)(hpos : ∀x,0≤kp x)(hm:MarkIn N m ch kp F id)(hu:UndoR N m ch (updk kp id 1) (markF F id 5 2) id (ch id) [] F2) :
    EndIn F2 id∧AbortQ N m ch kp F n id (leaveG F2 n id):=by
  obtain⟨s1,s2,s3,s4,s5,s6,s7⟩:=hu.same
  have hof2:F2.of n=id:=by rw[s5];exact hof
  obtain⟨e1,e2,e3,e4⟩:=end_ok (n:=n) hu.ok hu.has_ hof2 (by unfold updk;rw[if_pos rfl]) (updk_pos hpos id)
  have hc:updc ch id [] id=[]:=by unfold updc;rw[if_pos rfl]
  rw[hc] at e2 e4
  have hk2:F2.ks=F.ks:=s3
  have hroom:=hu.ok.g.room
  have hlr:F2.S.l.room≤1073741824:=by unfold Lg.room;have:=hu.ok.g.lok.base;unfold Lg.last;omega
  have hE:endF F2 n id ((([]:List Int).length:Nat):Int)=leaveG F2 n id:=by
    unfold endF leaveG
    simp
  rw[hE] at e4
  refine⟨⟨hu.has_,hu.ok.t.rise,(tget_mem hu.has_).2,⟨by simp at e2;omega,by omega⟩,e1,e3⟩,⟨e4,fun j => ?_,⟨s1,s2,by show freeL F2.ks n=_;rw[hk2],s4,?_,s6,s7⟩,fun n r hn=>addRec_rec (hu.old n r (hm.old n r hn))⟩⟩
  · show vals F2 j=_
    rw[hu.vals_ j]
    have hkeep:=rewV_keep (L:=F.S.l) (L':=(markF F id 5 2).S.l) hm.old (ch id) (vals (markF F id 5 2)) (fun k hk=>by
      obtain⟨hx,hxid⟩:=tget_mem (show thas F.ts id=true from by
        have:=hm.has1
        rw[thas_ids hm.rise1,ids_tnote,←thas_ids h.t.rise] at this
        exact this)
      have:=(h.c.last _ hx).1.at_ k (by rw[hxid];exact hk)
      obtain⟨_,r,hr,_⟩:=this
      exact⟨r,hr⟩)
    rw[hkeep]
    have:vals (markF F id 5 2)=vals F:=funext hm.vals_
    rw[this]
  · show upd F2.of n 0=_
    rw[s5]
    rfl
theorem abort2_calls (a:Nat→Addr)(M:Nat→Prop)(bp bm sp lp pp dp qp mp:Nat)(blocks frames:Int)(B:BSt)(n id hint:Int)(N m:Nat)(ch:Int→List Int)(kp:Int→Int)(w:World)(h:BkM M w bp bm sp lp pp dp qp mp blocks frames B)(hok:FOk N m ch kp B.F)(hof:B.F.of n=id)(hid:thas B.F.ts id=true)(hkp2:kp id=2)(hkp : ∀x,0≤kp x)(hm:m+(ch id).length≤30000)(hfr:B.F.S.frames≤8)(hs:SentsAll w a)(hO:OutAll M a)(h0:0≤n)(h1:n<B.F.sess)(h2:B.F.sess≤1000)(hh0 : -9223372036854775808≤hint)(hh1:hint≤9223372036854775807) :
    Calls Tryz.prog 34 #[.pointer (some ⟨bp,0,none⟩),.int .i64 n,.int .i64 hint] w fun e w'=>e = .returned .nilIface∧∃F',AbortQ N m ch kp B.F n id F'∧BkPost M bp bm sp lp pp dp qp mp blocks frames { F:=F',sv:=updS B.sv n ⟨0,[]⟩,nu:=B.nu } w w':=by
  obtain⟨R,sl,h⟩:=h
  obtain⟨R,h,hrc⟩ : ∃R',BkIn M w bp bm sp lp pp dp qp mp blocks frames B R' sl∧∀k,R' k→k<w.heap.size:=⟨_,h.cutR,fun k hk=>hk.2⟩
  have HRC:=Aside0.mk hrc
  have hroom:=hok.g.room
  have hmk:=mark_in hok hid hkp2 hkp
  have htid:(tget B.F.ts id).id=id:=(tget_mem hid).2
  have HC:=Aside0.mk (called_calls R sp lp pp dp qp mp blocks frames B.F n w h.f h0 h1 h2 (by rw[hof];exact hid) hok.t.rise)
  rw[hof] at HC
  have HH:=Aside0.mk h
  have HMK:=Aside0.mk hmk
  have HOK:=Aside0.mk hok
  have HKB:=Aside0.mk (show 1≤B.F.kept∧B.F.kept≤1073741824 from⟨hmk.kept,(room_top hok.g).2⟩)
  have HS:=Aside0.mk hs
  have HO:=Aside0.mk hO
  have HOR:=Aside0.mk (OutAll.sub (M':=R) hO fun k hk=>(h.r k hk).1)
  have HOF:=Aside0.mk hof
  have HID:=Aside0.mk hid
  have HKP:=Aside0.mk hkp
  have HM:=Aside0.mk hm
  have HFR:=Aside0.mk hfr
  have HHB:=Aside0.mk (And.intro hh0 hh1)
  have HWF:=Aside0.mk (And.intro h0 (And.intro h1 h2))
  obtain⟨x,hxx⟩ : ∃x,tget B.F.ts id=x:=⟨_,rfl⟩
  have HXX:=Aside0.mk hxx
  rw[hxx] at HC htid
  obtain⟨xi,xs,xl,xn⟩:=x
  simp only at htid
  subst htid
  simp only[txV] at HC
  have c0:=h.cells.1
  have hbl:=heap_lt h.box
  clear h hok hof hid hkp2 hkp hm hfr hs hO h0 h1 h2 hh0 hh1 hxx hrc hroom hmk
  go_enter Tryz.func34,Tryz.ntmps34
  go_wp2_with fail
  refine HC.out.mono ?_
  rintro e w1 ⟨rfl,hb⟩
  obtain⟨W,hW⟩ : ∃W,w1.alloc (.cells #[.int .i64 xi,.int .i64 xs,.int .i64 xl,.int .i64 xn] 102)=W:=⟨_,rfl⟩
  have HBW:=Aside0.mk (show Below w.heap.size w W from below_step hb (show Below w1.heap.size w1 W by rw[←hW];exact below_alloc (Below.refl _ _) _))
  obtain⟨bx,hbx⟩ : ∃b,w1.heap.size=b:=⟨_,rfl⟩
  have HXB:=Aside0.mk (show W.heap[bx]? = some (.cells #[.int .i64 xi,.int .i64 xs,.int .i64 xl,.int .i64 xn] 102 (0,0)) from by rw[←hW,←hbx];exact heap_alloc_new _ _)
  have HWN:=Aside0.mk (And.intro hW hbx)
  have hbxw:w.heap.size≤bx:=by have:=hb.size;omega
  clear hW hb hbx c0 hbl
  go_upto_region 2 with fail
  rw[HWN.out.1,HWN.out.2]
  have HLB0:=Aside0.mk (LB.start HH.out.f HBW.out)
  have hbB:W.heap[bp]? = some (.cells #[.pointer (some ⟨sp,0,none⟩),.map (some bm)] 61 (0,0)):=(HBW.out.block _ (heap_lt HH.out.box)).trans HH.out.box
  have c0:W.cell? ⟨bp,0,none⟩=some (.pointer (some ⟨sp,0,none⟩)):=by simp[World.cell?,hbB]
  have hbl:=heap_lt hbB
  obtain⟨x0,x1,x2,x3,_,_,_,_⟩:=tx_cells HXB.out
  have hxl:=heap_lt HXB.out
  have HBB:=Aside0.mk hbB
  have HAP:=Aside0.mk (show ∀(V:World),Below W.heap.size W V→Calls Tryz.prog 74 #[.pointer (some ⟨sp,0,none⟩),recV (recMark ⟨xi,xs,xl,xn⟩ 5)] V (fun e w'=>e = .returned (.tuple #[.int .i64 (B.F.S.l.last+1),.nilIface])∧∃R',LB R sp lp pp dp qp mp blocks frames (addK B.F (recMark ⟨xi,xs,xl,xn⟩ 5)) w W R' w') from fun V hbl=>by
    have hl:=HLB0.out.below hbl
    obtain⟨hs1,hs2⟩:=hl.sents HS.out HOR.out
    have:=fappend_calls a _ sp lp pp dp qp mp blocks frames B.F (recMark ⟨xi,xs,xl,xn⟩ 5) V hl.f hs1 hs2 HKB.out (by rw[←HXX.out];exact HMK.out.rec5) HMK.out.room
    exact this.mono fun e w' hh=>⟨hh.1,_,hl.step hh.2⟩)
  simp only[recV,recMark] at HAP
  clear hbB
  go_upto_region 4 with fail
  go_cut [9,8] (fun v9 v8 wx=>v9 = .int .i64 (B.F.S.l.last+1)∧v8 = .nilIface∧∃R',Aside0 (LB R sp lp pp dp qp mp blocks frames (addK B.F (recMark ⟨xi,xs,xl,xn⟩ 5)) w W R' wx))
  case first=>
    go_region_law (first
      | (go_simp;go_at_call 74;refine (HAP.out _ (by repeat (first | exact Below.refl _ _ | apply below_drew1))).mono ?_;rintro e w3 ⟨rfl,R',hl⟩;have HL:=Aside0.mk hl;clear hl))
    all_goals
      go_wp2_with fail
      go_meet
      exact⟨rfl,rfl,R',HL⟩
  case rest=>
    obtain⟨rfl,rfl,R1,HL1⟩:=hcut
    generalize wc=V1 at HL1 ⊢
    clear c0 hbl x0 x1 x2 x3 hxl HAP
    have nbp : ∀{R':Nat→Prop} {V:World} {F1:FS},LB R sp lp pp dp qp mp blocks frames F1 w W R' V→V.heap[bp]? = some (.cells #[.pointer (some ⟨sp,0,none⟩),.map (some bm)] 61 (0,0)):=fun hl=>hl.k.at HH.out.box (fun hr=>(HH.out.r bp hr).2.1 rfl)
    have HBP:=Aside0.mk @nbp
    have hbB:=nbp HL1.out
    clear nbp
    have c0:V1.cell? ⟨bp,0,none⟩=some (.pointer (some ⟨sp,0,none⟩)):=by simp[World.cell?,hbB]
    have hbl:=heap_lt hbB
    clear hbB
    go_wp2_with fail
    refine (parts_calls _ sp lp pp dp qp mp blocks frames _ V1 HL1.out.f).mono ?_
    rintro e V2 ⟨rfl,hb2⟩
    have HL2:=Aside0.mk (HL1.out.below hb2)
    clear hb2 c0 hbl
    obtain⟨cs,tv,htx,hput⟩:=FwM.txs HL2.out.f HOK.out.t.rise
    have HTX:=Aside0.mk htx
    have HPT:=Aside0.mk hput
    clear htx hput
    obtain⟨x0,x1,x2,x3,_,_,_,_⟩:=tx_cells (HL2.out.at HXB.out hbxw)
    have hxl:=heap_lt (HL2.out.at HXB.out hbxw)
    go_wp2_with fail
    refine (tnote_calls _ sp 8 118 cs tv B.F.ts B.F.most xi (B.F.S.l.last+1) xn _ HTX.out HID.out).mono ?_
    rintro e V3 ⟨rfl,hpost⟩
    have HL3:=Aside0.mk (HL2.out.step (HPT.out _ _ _ (Int.le_refl _) hpost))
    clear hpost x0 x1 x2 x3 hxl HTX HPT
    have hr1:Rising (kvT (tnote B.F.ts xi (B.F.S.l.last+1) xn)):=by have:=HMK.out.rise1;rw[HXX.out] at this;exact this
    have hh1:thas (tnote B.F.ts xi (B.F.S.l.last+1) xn) xi=true:=by have:=HMK.out.has1;rw[HXX.out] at this;exact this
    obtain⟨cs,tv,htx,hput⟩:=FwM.txs HL3.out.f hr1
    have HTX:=Aside0.mk htx
    have HPT:=Aside0.mk hput
    have HH1:=Aside0.mk hh1
    clear htx hput hr1 hh1
    obtain⟨x0,x1,x2,x3,_,_,_,_⟩:=tx_cells (HL3.out.at HXB.out hbxw)
    have hxl:=heap_lt (HL3.out.at HXB.out hbxw)
    go_wp2_with fail
    refine (tstate_calls _ sp 8 118 cs tv (tnote B.F.ts xi (B.F.S.l.last+1) xn) B.F.most xi 2 _ HTX.out HH1.out).mono ?_
    rintro e V4 ⟨rfl,hpost⟩
    have HL4:=Aside0.mk (HL3.out.step (HPT.out _ _ _ (Int.le_refl _) hpost))
    clear hpost x0 x1 x2 x3 hxl HTX HPT
    have HF4:=Aside0.mk (show FwPost R sp lp pp dp qp mp blocks frames (markF B.F xi 5 2) w V4 from by
      have h4:=HL4.out.post
      have e:markF B.F xi 5 2={ B.F with S:=addRec B.F.S (recMark ⟨xi,xs,xl,xn⟩ 5),ts:=tstate (tnote B.F.ts xi (B.F.S.l.last+1) xn) xi 2,kept:=B.F.kept - 1 }:=by
        unfold markF
        rw[HXX.out]
      rw[e]
      exact h4)
    have HI4:=Aside0.mk (BkIn.fwI HH.out HF4.out)
    have HS4:=Aside0.mk (SentsAll.kp HS.out HI4.out.2 HO.out)
    have HO4:=Aside0.mk (OutAll.gr (w':=V4) HO.out HS.out)
    have HUN:=Aside0.mk (undo_calls a (Gr M w V4) (Gr R w V4) bp bm sp lp pp dp qp mp blocks frames { B with F:=markF B.F xi 5 2 } sl xi 0 hint N m ch (updk kp xi 1) (ch xi) [] V4 HI4.out.1 HMK.out.ok HMK.out.has2 (by simp) rfl (updk_pos HKP.out xi) HM.out HFR.out HS4.out HO4.out HHB.out.1 HHB.out.2)
    obtain⟨x0,x1,x2,x3,_,_,_,_⟩:=tx_cells (HL4.out.at HXB.out hbxw)
    have hxl:=heap_lt (HL4.out.at HXB.out hbxw)
    go_wp2_with fail
    refine HUN.out.mono ?_
    rintro e V5 ⟨rfl,F2,hu,hp⟩
    have HU:=Aside0.mk hu
    have HI5:=Aside0.mk (BkIn.fwI HI4.out.1 hp)
    clear hu hp x0 x1 x2 x3 hxl
    obtain⟨hend,habr⟩:=abort_end2 HOK.out HOF.out HKP.out HMK.out HU.out
    have HEND:=Aside0.mk hend
    have HABR:=Aside0.mk habr
    clear hend habr
    obtain⟨n0,D,hown,hn0,hat⟩:=HI5.out.1.map
    have HOWN:=Aside0.mk hown
    have HAT:=Aside0.mk hat
    have HN0:=Aside0.mk hn0
    have HWN2:=Aside0.mk (wf64 (n:=n) (by have:=HWF.out;omega) (by have:=HWF.out;omega))
    obtain⟨c0,c1⟩:=HI5.out.1.cells
    have hbl:=heap_lt HI5.out.1.box
    clear hown hat hn0
    go_upto_region 14 with (first | (at_delete;refine wpList_delete_own _ rfl _ _ 59 3 rfl 148 (int_keyed Tryz.underlying3) Tryz.underlying59 _ bm n0 D rfl HOWN.out _ _ rfl (keyOf_int_mk Tryz.underlying3 HWN2.out) ?_;intro V6 hown6 hg6))
    have HS6:=Aside0.mk (sv_del HAT.out hown6 HN0.out)
    have HG6:=Aside0.mk hg6.grown
    clear hown6 hg6 c0 c1 hbl
    have HP6:=Aside0.mk (BkIn.put (w':=V6) (n:=n) (id:=xi) (t:=0) (v':=.slice none 0 0) (xs':=[]) (nu:=B.nu) HI5.out.1
      ⟨HG6.out.os,HG6.out.tape,HG6.out.output⟩ HG6.out.size (fun j hj hne2 _=>HG6.out.block j hj (fun e=>hne2 (by injection e))) HS6.out (IS.nil _ _)
      (fun g hg=>by simp[Value.ownBlock] at hg))
    obtain⟨⟨R6,sl6,h6⟩,hk6⟩:=HP6.out
    have H6:=Aside0.mk h6
    have HK6:=Aside0.mk hk6
    clear h6 hk6 HP6
    have HM6:=Aside0.mk (show Kp M w V6 from HI4.out.2.transG (HI5.out.2.transG HK6.out))
    have HS7:=Aside0.mk (SentsAll.kp HS.out HM6.out HO.out)
    have HG0:=Aside0.mk (show ∀j,Gr (Gr (Gr M w V4) V4 V5) V5 V6 j→Gr M w V6 j from fun j hj=>Gr.trans (Nat.le_trans HI4.out.2.size HI5.out.2.size) HK6.out.size (by
      rcases hj with hj | hj
      · exact .inl (Gr.trans HI4.out.2.size HI5.out.2.size hj)
      · exact .inr hj))
    have HO7:=Aside0.mk (OutAll.sub (M':=R6) (OutAll.gr (w':=V6) HO.out HS.out) fun j hj=>HG0.out j (H6.out.r j hj).1)
    have HLV:=Aside0.mk (leave2_calls a R6 sp lp pp dp qp mp blocks frames F2 n xi V6 H6.out.f HS7.out HO7.out HWF.out.1 (by have:=HWF.out;omega) (by
      have h1:=HU.out.same.2.2.2.2.1
      rw[h1];exact HOF.out) HEND.out.has_ HEND.out.rise HEND.out.tid HEND.out.kept HEND.out.rec6 HEND.out.room)
    obtain⟨c0,c1⟩:=H6.out.cells
    have hbl:=heap_lt H6.out.box
    go_wp2_with fail
    refine HLV.out.mono ?_
    rintro e V7 ⟨rfl,hp7⟩
    have HP7:=Aside0.mk (H6.out.fw hp7)
    clear hp7 c0 c1 hbl
    go_wp2_with fail
    go_ret
    refine⟨rfl,_,HABR.out,?_⟩
    exact BkPost.trans ⟨⟨R6,sl6,H6.out.mono HG0.out⟩,HM6.out⟩ fun _=>⟨BkM.mono HP7.out.1 fun j hj=>by
      rcases hj with hj | hj
      · exact .inl (HG0.out j hj)
      · exact .inr hj,HP7.out.2.wide fun j hj=>HG0.out j hj⟩
end Go.Proofs.YtaplpeoikebedaaGreatDoor.BackQ
namespace Go.Proofs.YtaplpeoikebedaaGreatDoor.FullD
open Go.RowKit See Mem Page PageB PageR PageL Disk DiskW RecD Dirty Wal WalF PoolG PoolS SysD SysM Fresh FlushG Pager StoreD PageM StoreF StoreG StoreH StoreI StoreJ StoreK StoreV StoreW LockT LockU BackD BackL BackA TwiceD
def rng (a b:Nat):List Int:=(List.range (b - a)).map fun j=>((a+j:Nat):Int)
end Go.Proofs.YtaplpeoikebedaaGreatDoor.FullD
namespace Go.Proofs.YtaplpeoikebedaaGreatDoor.CkptD
open Go.RowKit See Mem Page PageB PageR PageL Disk DiskW RecD Dirty Dirty2 Wal WalF PoolG PoolS PoolA SortI SysD SysM Fresh FlushG TabL Pager StoreD PageM StoreF StoreG StoreH StoreI StoreJ StoreV StoreW LockT LockU BackD BackL BackA ValD
end Go.Proofs.YtaplpeoikebedaaGreatDoor.CkptD
namespace Go.Proofs.YtaplpeoikebedaaGreatDoor.MasC
open Go.RowKit YtaplpeoikebedaaGreatDoorW.PrintWords YtaplpeoikebedaaGreatDoorW.PrintLast YtaplpeoikebedaaGreatDoorW.PrintMore
open See Mem Clone Go.Proofs.YtaplpeoikebedaaGreatDoor.Cell Page PageB PageR Disk RecD Rec RecC RecB Fill
attribute [local go_sem] max2_imax min2_imin max_two min_two
structure Mst where
  epoch:Int
  base:Int
  reset:Int
  ckpt:Int
  pages:Int
  blocks:Int
  frames:Int
abbrev mstV (m:Mst):Value:=.agg #[.int .i64 m.epoch,.int .i64 m.base,.int .i64 m.reset,.int .i64 m.ckpt,.int .i64 m.pages,.int .i64 m.blocks,.int .i64 m.frames]
structure MOk (m:Mst):Prop where
  epoch:1≤m.epoch∧m.epoch≤1073741824
  base:0≤m.base∧m.base≤1073741824
  reset:1≤m.reset∧m.reset≤m.epoch
  ckpt:m.ckpt=0∨(m.base+1≤m.ckpt∧m.ckpt≤1073741824)
  pages:1≤m.pages∧m.pages≤32
  blocks:1≤m.blocks∧m.blocks≤64
  frames:1≤m.frames∧m.frames≤8
theorem min_in (n lo hi:Int)(h1:lo≤n)(h2:n≤hi)(w:World) :
    Calls Tryz.prog 203 #[.int .i64 n,.int .i64 lo,.int .i64 hi] w fun e w'=>e = .returned (.bool true)∧w=w':=by
  have q1:decide (n≥lo)=true:=decide_eq_true h1
  have q2:decide (n≤hi)=true:=decide_eq_true h2
  clear h1 h2
  go_enter Tryz.func203,Tryz.ntmps203
  go_wp2
  go_ret
  exact⟨by simp,rfl⟩
theorem mcheck_calls (m:Mst)(hm:MOk m)(w:World) :
    Calls Tryz.prog 156 #[mstV m] w fun e w'=>e = .returned .nilIface∧Below w.heap.size w w':=by
  obtain⟨⟨a1,a2⟩,⟨b1,b2⟩,⟨c1,c2⟩,hc,⟨d1,d2⟩,⟨e1,e2⟩,⟨f1,f2⟩⟩:=hm
  obtain⟨ep,ba,re,ck,pg,bl,fr⟩:=m
  simp only at a1 a2 b1 b2 c1 c2 hc d1 d2 e1 e2 f1 f2
  have hw:IntKind.i64.wrap (ba+1)=ba+1:=by rw[IntKind.wrap_i64];omega
  rcases hc with rfl | ⟨g1,g2⟩
  · go_enter Tryz.func156,Tryz.ntmps156
    go_wp2_with (refine (min_in _ _ _ (by omega) (by omega) _).mono ?_;rintro e w' ⟨rfl,rfl⟩)
    go_ret
    exact⟨rfl,below_alloc (Below.refl _ _) _⟩
  · have hne : ¬ck=0:=by omega
    go_enter Tryz.func156,Tryz.ntmps156
    go_wp2_with (refine (min_in _ _ _ (by omega) (by omega) _).mono ?_;rintro e w' ⟨rfl,rfl⟩)
    go_ret
    exact⟨rfl,below_alloc (Below.refl _ _) _⟩
def mstL (m:Mst):List Int:=[m.epoch,m.base,m.reset,m.ckpt,m.pages,m.blocks,m.frames]
def mstN (m:Mst):Nat→List Int
  | 0=>fillL [80,72,88,77] 256
  | i+1=>putL (mstN m i) (4+4*i) 4 (IntKind.u64.wrap ((mstL m).getD i 0))
def mstBytes (m:Mst):List Int:=mstN m 7
theorem mstN_len (m:Mst) : ∀i,i≤7→(mstN m i).length=256
  | 0,_=>by
    show (fillL [80,72,88,77] 256).length=256
    unfold fillL
    rw[List.length_append,List.length_replicate]
    rfl
  | i+1,h=>by
    have:=mstN_len m i (by omega)
    unfold mstN
    rw[putL_length _ _ _ _ (by omega)]
    exact this
theorem mstN_isB (m:Mst) : ∀i,IsB (mstN m i)
  | 0=>by
    unfold mstN fillL
    refine IsB.append (fun x hx => ?_) (fun x hx => ?_)
    · simp only[List.mem_cons,List.not_mem_nil,or_false] at hx
      rcases hx with rfl | rfl | rfl | rfl<;>decide
    · rw[List.mem_replicate] at hx
      rw[hx.2];decide
  | i+1=>by
    unfold mstN
    exact putL_isB (mstN_isB m i) _ _ _
theorem mst_sec (m:Mst):SecB (mstBytes m):=⟨mstN_len m 7 (by omega),mstN_isB m 7⟩
end Go.Proofs.YtaplpeoikebedaaGreatDoor.MasC
namespace Go.Proofs.YtaplpeoikebedaaGreatDoor.MasT
open Go.RowKit YtaplpeoikebedaaGreatDoorW.PrintWords YtaplpeoikebedaaGreatDoorW.PrintLast YtaplpeoikebedaaGreatDoorW.PrintMore
open See Mem Clone Go.Proofs.YtaplpeoikebedaaGreatDoor.Cell Page PageB PageR Disk RecD Rec RecC RecB Fill MasC
attribute [local go_sem] max2_imax min2_imin max_two min_two
theorem mst_index (m:Mst){i x:Int}(h0:0≤i)(h7:i<7)(hx:(mstL m).getD i.toNat 0=x)(W:World):(Instr.index 248 (.agg #[.int .i64 m.epoch,.int .i64 m.base,.int .i64 m.reset,.int .i64 m.ckpt,.int .i64 m.pages,.int .i64 m.blocks,.int .i64 m.frames]) (.int .i64 i)).run Tryz.prog W = .ok (.int .i64 x) W:=by
  rw[←hx]
  rcases (show i=0∨i=1∨i=2∨i=3∨i=4∨i=5∨i=6 by omega) with rfl | rfl | rfl | rfl | rfl | rfl | rfl<;>kernel_rfl
theorem mbytes_calls (m:Mst)(hm:MOk m)(w:World) :
    Calls Tryz.prog 105 #[mstV m] w fun e w' => ∃v,e = .returned (.tuple #[v,.nilIface])∧BS w' v (mstBytes m)∧Below w.heap.size w w':=by
  have HC:=Aside0.mk (mcheck_calls m hm)
  obtain⟨mm,hmm⟩ : ∃mm,mm=m:=⟨_,rfl⟩
  have HMM:=Aside0.mk hmm
  clear hm hmm
  obtain⟨ep,ba,re,ck,pg,bl,fr⟩:=m
  have hcv:=fun (w:World) (C:Array Value) (n c:Nat)=>Lib.run_convert_bytes_const (P:=Tryz.prog) w 93 5 C n c Tryz.underlying93 Tryz.underlying5
  go_enter Tryz.func105,Tryz.ntmps105
  go_wp2_with fail
  refine (HC.out _).mono ?_
  rintro e w1 ⟨rfl,hb⟩
  have hc0:w1.cell? ⟨w.heap.size,0,none⟩=some (.int .i64 ep):=(hb.cell (p:=⟨w.heap.size,0,none⟩) (by simp)).trans (by simp)
  have hc1:w1.cell? ⟨w.heap.size,1,none⟩=some (.int .i64 ba):=(hb.cell (p:=⟨w.heap.size,1,none⟩) (by simp)).trans (by simp)
  have hc2:w1.cell? ⟨w.heap.size,2,none⟩=some (.int .i64 re):=(hb.cell (p:=⟨w.heap.size,2,none⟩) (by simp)).trans (by simp)
  have hc3:w1.cell? ⟨w.heap.size,3,none⟩=some (.int .i64 ck):=(hb.cell (p:=⟨w.heap.size,3,none⟩) (by simp)).trans (by simp)
  have hc4:w1.cell? ⟨w.heap.size,4,none⟩=some (.int .i64 pg):=(hb.cell (p:=⟨w.heap.size,4,none⟩) (by simp)).trans (by simp)
  have hc5:w1.cell? ⟨w.heap.size,5,none⟩=some (.int .i64 bl):=(hb.cell (p:=⟨w.heap.size,5,none⟩) (by simp)).trans (by simp)
  have hc6:w1.cell? ⟨w.heap.size,6,none⟩=some (.int .i64 fr):=(hb.cell (p:=⟨w.heap.size,6,none⟩) (by simp)).trans (by simp)
  have hz:w.heap.size<w1.heap.size:=by have:=hb.size;simp at this;omega
  have HB:=Aside0.mk (below_step (below_alloc (Below.refl w.heap.size w) (.cells #[.int .i64 ep,.int .i64 ba,.int .i64 re,.int .i64 ck,.int .i64 pg,.int .i64 bl,.int .i64 fr] 84)) hb)
  clear hb
  go_wp2_with fail
  have HX:=Aside0.mk (show BS (w1.alloc (.cells #[.int .u8 80,.int .u8 72,.int .u8 88,.int .u8 77] 5 (4,5))) (.slice (some ⟨w1.heap.size,0,none⟩) 4 4) [80,72,88,77] from
    ⟨by simp,by simp,.inr ⟨w1.heap.size,0,4,_,_,rfl,heap_alloc_new w1 _,by simp,by decide,by simp,rfl⟩⟩)
  refine (fill_calls _ [80,72,88,77] 256 _ HX.out (by decide) (by decide)).mono ?_
  rintro e w2 ⟨v2,rfl,hv2,hb2⟩
  have HV2:=Aside0.mk hv2
  have hb12:=below_step (below_alloc (Below.refl w1.heap.size w1) (.cells #[.int .u8 80,.int .u8 72,.int .u8 88,.int .u8 77] 5 (4,5))) hb2
  have HB2:=Aside0.mk (HB.out.trans (hb12.mono HB.out.size))
  replace hc0:=(hb12.cell (p:=⟨w.heap.size,0,none⟩) hz).trans hc0
  replace hc1:=(hb12.cell (p:=⟨w.heap.size,1,none⟩) hz).trans hc1
  replace hc2:=(hb12.cell (p:=⟨w.heap.size,2,none⟩) hz).trans hc2
  replace hc3:=(hb12.cell (p:=⟨w.heap.size,3,none⟩) hz).trans hc3
  replace hc4:=(hb12.cell (p:=⟨w.heap.size,4,none⟩) hz).trans hc4
  replace hc5:=(hb12.cell (p:=⟨w.heap.size,5,none⟩) hz).trans hc5
  replace hc6:=(hb12.cell (p:=⟨w.heap.size,6,none⟩) hz).trans hc6
  have hz2:w.heap.size<w2.heap.size:=by have:=hb12.size;omega
  clear hv2 hb2 hb12 hz HX HB hcv
  go_wp2_with fail
  clear hc0 hc1 hc2 hc3 hc4 hc5 hc6 hz2
  go_loopg [5,31] 8 (fun kq v5 v31 w' => ∃(i:Int) (v:Value),v5=v∧v31 = .int .i64 i∧Aside0 (0≤i∧i≤7∧(kq:Int)=8 - i)∧Aside0 (BS w' v (mstN mm i.toNat))∧Aside0 (Below w.heap.size w w'))
  case atStart=>exact⟨0,_,rfl,rfl,⟨by omega,by omega,by omega⟩,⟨HV2.out⟩,HB2⟩
  case round=>
    obtain⟨i,v,rfl,rfl,HI,HV,HB3⟩:=hrel
    have hi0:0≤i:=HI.out.1
    by_cases hlt:i<7
    · obtain⟨x,hx⟩ : ∃x,(mstL mm).getD i.toNat 0=x:=⟨_,rfl⟩
      have hix:=mst_index (x:=x) ⟨ep,ba,re,ck,pg,bl,fr⟩ hi0 hlt (by rw[←HMM.out,hx]) wr
      simp only at hix
      have HSTEP:=Aside0.mk (show mstN mm (i.toNat+1)=putL (mstN mm i.toNat) (4+4*i.toNat) 4 (IntKind.u64.wrap x) from by rw[←hx];rfl)
      have HL:=Aside0.mk (mstN_len mm i.toNat (by omega))
      have hw4:IntKind.i64.wrap (4*i)=4*i:=by rw[IntKind.wrap_i64];omega
      have hw5:IntKind.i64.wrap (4+4*i)=4+4*i:=by rw[IntKind.wrap_i64];omega
      have hw6:IntKind.i64.wrap (i+1)=i+1:=by rw[IntKind.wrap_i64];omega
      obtain⟨y,hy⟩ : ∃y,IntKind.u64.wrap x=y:=⟨_,rfl⟩
      have hy0:0≤y:=by rw[←hy];exact u64_nonneg _
      rw[hy] at HSTEP
      obtain⟨z,hz⟩ : ∃z,4+4*i=z:=⟨_,rfl⟩
      have hz0:0≤z:=by omega
      have hz1:z+4≤256:=by omega
      have HZ:=Aside0.mk (show z.toNat=4+4*i.toNat by omega)
      rw[hz] at hw5
      clear hx
      go_wp2_with fail
      refine (put_calls _ (mstN mm i.toNat) z 4 y hz0 (by omega) (by omega) (by rw[HL.out];omega) hy0 _ HV.out).mono ?_
      rintro e w5 ⟨v5,rfl,hv5,hb5⟩
      have HV5:=Aside0.mk (show BS w5 v5 (mstN mm (i+1).toNat) from by
        rw[show (i+1).toNat=i.toNat+1 by omega,HSTEP.out]
        rw[HZ.out] at hv5
        exact hv5)
      have HB5:=Aside0.mk (below_step HB3.out hb5)
      clear hv5 hb5 hix hy hz
      go_wp2_with fail
      go_roundg (gk - 1)
      case measure=>have:=HI.out;omega
      case rel=>exact⟨i+1,_,rfl,rfl,⟨by omega,by omega,by have:=HI.out;omega⟩,HV5,HB5⟩
    · have hi7:i.toNat=7:=by have:=HI.out;omega
      go_wp2_with fail
      exact bodyPost_ret (v:=.tuple #[u5,.nilIface]) (by simp[results,Tryz.results105,go_sem]) rfl ⟨u5,rfl,by
        have:=HV.out
        rw[hi7] at this
        rw[←HMM.out]
        exact this,HB3.out⟩
end Go.Proofs.YtaplpeoikebedaaGreatDoor.MasT
