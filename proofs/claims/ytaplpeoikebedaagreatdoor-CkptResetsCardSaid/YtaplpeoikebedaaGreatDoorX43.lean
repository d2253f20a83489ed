/- Joined texts: CkptA, RoundD, RefM. No condition but what each says. -/
import Derived.Test.YtaplpeoikebedaaGreatDoorX41
import Derived.Test.YtaplpeoikebedaaGreatDoorX42
import Derived.Deep.DeepCutAuto
import Derived.Test.YtaplpeoikebedaaGreatDoorX36
import Derived.Test.YtaplpeoikebedaaGreatDoorX37
set_option maxHeartbeats 8000000
set_option maxRecDepth 100000
set_option linter.unusedVariables false
set_option linter.unusedSimpArgs false
namespace Go.Proofs.YtaplpeoikebedaaGreatDoor.CkptA
open Go.RowKit Go.Maps YtaplpeoikebedaaGreatDoorW.PrintWords YtaplpeoikebedaaGreatDoorW.PrintLast YtaplpeoikebedaaGreatDoorW.PrintMore
open See Mem Page Disk DiskW RecD Wal WalF Pool2 SysD SysM PoolA Pager StoreD StoreF StoreI StoreJ TransT SpaceT FwdM FwdP BackM BackU MasC MasT CkptD CkptM CkptK CkptW CkptC CkptX ResetD WalA
attribute [local go_sem] max2_imax min2_imin max_two min_two
section
variable {M R Rb:Nat→Prop}{cp bp bm sp lp pp dp qp q mp:Nat}{blocks frames:Int}{B B' B2:BSt}{sl:Int→Value}{m m2:Mst}{w w1 w':World}
theorem BkIn.fwQ (h:BkIn M w bp bm sp lp pp dp qp mp blocks frames B R sl){F':FS}(hp:FwPost R sp lp pp dp q mp blocks frames F' w w'):BkPost M bp bm sp lp pp dp q mp blocks frames { B with F:=F' } w w':=by
  obtain⟨f,k⟩:=hp
  obtain⟨es,cl,hm⟩:=h.map.map
  have nb : ¬R bp:=fun hr=>(h.r bp hr).2.1 rfl
  have nm : ¬R bm:=fun hr=>(h.r bm hr).2.2.1 rfl
  refine⟨⟨Gr R w w',sl,k.at h.box nb,f,h.map.move (k.block _ (heap_lt hm) nm),fun s=>ow_move (h.row s) fun j hj => ?_,fun j hj => ?_,fun s j hj=>.inl (h.own s j hj),h.apart,.inl h.low.1,.inl h.low.2⟩,k.wide fun j hj=>(h.r j hj).1⟩
  · obtain⟨q1,_,q3⟩:=h.rowAt hj
    exact k.block j q1 q3
  · rcases hj with hj | ⟨q1,q2⟩
    · obtain⟨a,b,c,d⟩:=h.r j hj
      exact⟨.inl a,b,c,d⟩
    · refine⟨.inr ⟨q1,q2⟩,fun e => ?_,fun e => ?_,fun s hs => ?_⟩
      · have:=heap_lt h.box;omega
      · have:=heap_lt hm;omega
      · have:=(h.rowAt hs).1;omega
theorem CkIn.bkQ (h:CkIn M w cp bp bm sp lp pp dp qp mp blocks frames B m R)(hp:BkPost R bp bm sp lp pp dp q mp blocks frames B' w w'):CkPost M cp bp bm sp lp pp dp q mp blocks frames B' m w w':=by
  refine⟨⟨Gr R w w',hp.2.at h.box (fun hr=>(h.r cp hr).2 rfl),hp.1,fun k hk => ?_,.inl h.low⟩,hp.2.wide fun k hk=>(h.r k hk).1⟩
  rcases hk with hk | ⟨x,y⟩
  · exact⟨.inl (h.r k hk).1,(h.r k hk).2⟩
  · exact⟨.inr ⟨x,y⟩,by have:=heap_lt h.box;omega⟩
theorem CkPost.trans (h:CkPost M cp bp bm sp lp pp dp qp mp blocks frames B m w w1)(k:CkPost (Gr M w w1) cp bp bm sp lp pp dp q mp blocks frames B2 m2 w1 w'):CkPost M cp bp bm sp lp pp dp q mp blocks frames B2 m2 w w':=
  ⟨CkM.mono k.1 fun j hj=>Gr.trans h.2.size k.2.size hj,h.2.transG k.2⟩
theorem CkPost.back (h:CkPost M cp bp bm sp lp pp dp qp mp blocks frames B m w1 w')(k:Below w.heap.size w w1):CkPost M cp bp bm sp lp pp dp qp mp blocks frames B m w w':=by
  refine⟨CkM.mono h.1 fun j hj => ?_,(Kp.of_below k).trans h.2⟩
  rcases hj with hj | ⟨a,b⟩
  · exact .inl hj
  · exact .inr ⟨Nat.le_trans k.size a,b⟩
end
def anewM (S:PSys)(m:Mst):Mst:=⟨m.epoch+1,S.l.last,m.epoch+1,0,m.pages,m.blocks,m.frames⟩
theorem cells_below {w w':World}{b:Nat}(h:Below w.heap.size w w')(hb:b<w.heap.size) : ∀j,w'.cell? ⟨b,j,none⟩=w.cell? ⟨b,j,none⟩∧w'.frozen? ⟨b,j,none⟩=w.frozen? ⟨b,j,none⟩:=fun j=>by
  have e:=h.block b hb
  exact⟨by simp only[World.cell?,e],by simp only[World.frozen?,e]⟩
theorem m3_ok {w:World}{b:Nat}{e0 b0 r0 c0 p0 l0 f0 x1 x2 x3:Value}(h:w.heap[b]? = some (.cells #[e0,b0,r0,c0,p0,l0,f0] 84 (0,0))):(((w.setCell ⟨b,1,none⟩ x1).setCell ⟨b,2,none⟩ x2).setCell ⟨b,3,none⟩ x3).heap[b]? = some (.cells #[e0,x1,x2,x3,p0,l0,f0] 84 (0,0)):=
  heap_setCell_same _ b 3 _ _ x3 (heap_setCell_same _ b 2 _ _ x2 (heap_setCell_same w b 1 _ _ x1 h))
theorem reset_calls (a:Nat→Addr)(M:Nat→Prop)(cp bp bm sp lp pp dp qp mp:Nat)(blocks frames:Int)(B:BSt)(m:Mst)(S:PSys)(N mm:Nat)(ch:Int→List Int)(kp:Int→Int)(w:World)(h:CkM M w cp bp bm sp lp pp dp qp mp blocks frames B m)(hts:B.F.ts=[])(hall:flushAllS B.F.S=(S,none))(hok:FOk N mm ch kp { B.F with S:=S })(hlo:LooseLe B.F.S.d 1000)(hlen:B.F.S.l.l.length≤4000)(hmm:mm≤30000)(hm:MOk (anewM S m))(hm0:MOk m)(hs:SentsAll w a)(hO:OutAll M a) :
    Calls Tryz.prog 54 #[.pointer (some ⟨cp,0,none⟩)] w fun e w'=>e = .returned .nilIface∧∃q,CkPost M cp bp bm sp lp pp dp q mp blocks frames { B with F:=resF B.F S (anewM S m) } (anewM S m) w w':=by
  obtain⟨R,h⟩:=h
  obtain⟨Rb,sl,hb⟩:=h.b
  obtain⟨k0,_⟩:=h.cells
  obtain⟨b0,_⟩:=hb.cells
  have hcl:=heap_lt h.box
  have hbl:=heap_lt hb.box
  have HH:=Aside0.mk h
  have HB:=Aside0.mk hb
  have HS:=Aside0.mk hs
  have HO:=Aside0.mk hO
  have HP:=Aside0.mk (parts_calls Rb sp lp pp dp qp mp blocks frames B.F w hb.f)
  have HFL:=Aside0.mk (fun w1 (h1:Below w.heap.size w w1)=>flushall_pool a Rb pp lp dp B.F.S w1 ((hs.below h1).k _ (by decide)) ((OutAll.sub hO fun k hk=>(h.r k (hb.r k hk).1).1).k _ (by decide)) (hb.f.sys.below h1) (hlo.mono (by omega)) hlen)
  have HPO:=Aside0.mk (fun w1 w2 (h1:Below w.heap.size w w1) (hp:PAllPost a Rb pp lp dp B.F.S w1 (.returned .nilIface) w2)=>(show CkPost M cp bp bm sp lp pp dp qp mp blocks frames { B with F:={ B.F with S:=S } } m w w2 from by
    obtain⟨_,hx,hf⟩:=hp
    rw[hall] at hx
    exact h.sys hb h1 hx hf))
  have HE:=Aside0.mk (show errv a (flushAllS B.F.S).2 = .nilIface from by rw[hall];rfl)
  have HOK:=Aside0.mk hok
  have HMO:=Aside0.mk hm
  have HTS:=Aside0.mk hts
  have HMM:=Aside0.mk hmm
  have hep:1≤m.epoch∧m.epoch<1073741824:=by
    have h1:=hm.epoch.2
    have h2:=hm0.epoch.1
    have e:(anewM S m).epoch=m.epoch+1:=rfl
    omega
  have hlast:=hok.g.lok
  obtain⟨la,hla⟩ : ∃l,S.l.last=l:=⟨_,rfl⟩
  have HLA:=Aside0.mk hla
  clear h hb hs hO hts hall hok hlo hlen hmm hm hm0 hlast hla
  obtain⟨ep,ba,re,ck,pg,bl,fr⟩:=m
  have HAM:=Aside0.mk (show anewM S ⟨ep,ba,re,ck,pg,bl,fr⟩=⟨ep+1,la,ep+1,0,pg,bl,fr⟩ from by unfold anewM;rw[HLA.out])
  simp only at hep
  obtain⟨hep1,hep2⟩:=hep
  go_enter Tryz.func54,Tryz.ntmps54
  go_wp2_with fail
  refine HP.out.mono ?_
  rintro e w1 ⟨rfl,h1⟩
  have H1:=Aside0.mk h1
  have HAL:=Aside0.mk (show Calls Tryz.prog 79 #[.pointer (some ⟨sp,8,none⟩)] w1 fun e w' => ∃A c,e = .returned (.slice A 0 c)∧Below w1.heap.size w1 w' from by
    obtain⟨kv,tv,q1,q2,q3,q4,q5⟩:=(HB.out.f.below h1).box
    refine (tall_calls sp 8 tv B.F.ts w1 q4 (by simp[World.cell?,q1,fwCells])).mono ?_
    rintro e w' ⟨v,rfl,hv,hb⟩
    obtain⟨A,c,rfl,_⟩:=ow_slice hv.1
    rw[HTS.out]
    exact⟨A,c,rfl,hb⟩)
  clear h1 k0 b0 hcl hbl HP
  go_wp2_with fail
  refine HAL.out.mono ?_
  rintro e w2 ⟨A,c,rfl,hb2⟩
  have H2:=Aside0.mk (below_step H1.out hb2)
  clear hb2 HAL
  go_wp2_with fail
  refine (HFL.out w2 H2.out).mono ?_
  rintro e w3 hp
  obtain rfl:e = .returned .nilIface:=by rw[hp.1,HE.out]
  have HC3:=Aside0.mk (HPO.out w2 w3 H2.out hp)
  clear hp HFL HPO HE
  obtain⟨R3,h3⟩:=HC3.out.1
  obtain⟨Rb3,sl3,hb3⟩:=h3.b
  obtain⟨y0,y1,y2,y3,y4,y5,y6,y7,y8⟩:=ck_cells h3.box
  simp only at y2 y3 y4 y5 y6 y7 y8
  have hcl3:=heap_lt h3.box
  have H3:=Aside0.mk h3
  have HB3:=Aside0.mk hb3
  clear h3 hb3
  have hde:decide (ep≥1073741824)=false:=decide_eq_false (by omega)
  have hwe:IntKind.i64.wrap (ep+1)=ep+1:=by rw[IntKind.wrap_i64];omega
  go_upto_region 11 with fail
  obtain⟨U,hU⟩ : ∃U,w3.alloc (.cells #[.int .i64 (ep+1),.int .i64 ba,.int .i64 re,.int .i64 ck,.int .i64 pg,.int .i64 bl,.int .i64 fr] 84)=U:=⟨_,rfl⟩
  obtain⟨b8,hb8⟩ : ∃b,w3.heap.size=b:=⟨_,rfl⟩
  have HX:=Aside0.mk (show U.heap[b8]? = some (.cells #[.int .i64 (ep+1),.int .i64 ba,.int .i64 re,.int .i64 ck,.int .i64 pg,.int .i64 bl,.int .i64 fr] 84 (0,0)) from by rw[←hU,←hb8];exact heap_alloc_new _ _)
  have HBU:=Aside0.mk (show Below w3.heap.size w3 U from by rw[←hU];exact below_alloc (Below.refl w3.heap.size w3) _)
  have HU:=Aside0.mk (And.intro hU hb8)
  clear hU
  rw[HU.out.1,hb8]
  clear hb8 y0 y1 y2 y3 y4 y5 y6 y7 y8
  obtain⟨x0,x1,x2,x3,x4,x5,x6⟩:=mst_cells HX.out
  have hxl:=heap_lt HX.out
  have hxf : ∀j,U.frozen? ⟨b8,j,none⟩=false:=fun j=>by simp[World.frozen?,HX.out]
  have HLAST:=Aside0.mk (show ∀V,Below w3.heap.size w3 V→Calls Tryz.prog 24 #[.pointer (some ⟨lp,0,none⟩)] V fun e w'=>e = .returned (.int .i64 la)∧Below V.heap.size V w' from fun V hb=>by
    obtain⟨v,hl⟩:=(HB3.out.f.below hb).sys.log
    have:=last_log Rb3 lp dp v _ V hl
    rw[show ({ B.F with S:=S }:FS).S.l.last=la from HLA.out] at this
    exact this)
  go_cut [8] (fun v8 wx=>v8 = .pointer (some ⟨b8,0,none⟩)∧Aside0 (wx.heap[b8]? = some (.cells #[.int .i64 (ep+1),.int .i64 la,.int .i64 (ep+1),.int .i64 0,.int .i64 pg,.int .i64 bl,.int .i64 fr] 84 (0,0)))∧Aside0 (Below w3.heap.size w3 wx))
  case first=>
    go_region_law (first
      | (go_simp;go_at_call 24;refine (HLAST.out _ (by repeat (first | exact HBU.out | apply below_drew1))).mono ?_;rintro e wl ⟨rfl,hbl⟩;have hcc:=cells_below hbl (by exact hxl);have HBL:=Aside0.mk (below_step HBU.out (below_step (by repeat (first | exact Below.refl _ _ | apply below_drew1)) hbl));have HXL:=Aside0.mk ((hbl.block b8 (by exact hxl)).trans HX.out);have hzl:=hbl.size;have hxl2:b8<wl.heap.size:=(by exact Nat.lt_of_lt_of_le hxl hzl);have f0 : ∀j,wl.frozen? ⟨b8,j,none⟩=false:=(fun j=>(hcc j).2.trans (hxf j));have v0:wl.cell? ⟨b8,0,none⟩=some (.int .i64 (ep+1)):=((hcc 0).1.trans x0);have v1:=((hcc 1).1.trans x1);have v2:=((hcc 2).1.trans x2);have v3:=((hcc 3).1.trans x3);have v4:=((hcc 4).1.trans x4);have v5:=((hcc 5).1.trans x5);have v6:=((hcc 6).1.trans x6);clear hcc hbl))
    all_goals
      go_wp2_with fail
      go_meet
      have HQ:=Aside0.mk (m3_ok (x1:=.int .i64 la) (x2:=.int .i64 (ep+1)) (x3:=.int .i64 0) HXL.out)
      have HQ2:=Aside0.mk (((HBL.out.setCell (p:=⟨b8,1,none⟩) (by rw[←HU.out.2];exact Nat.le_refl _) (.int .i64 la)).setCell (p:=⟨b8,2,none⟩) (by rw[←HU.out.2];exact Nat.le_refl _) (.int .i64 (ep+1))).setCell (p:=⟨b8,3,none⟩) (by rw[←HU.out.2];exact Nat.le_refl _) (.int .i64 0))
      with_reducible exact⟨rfl,HQ,HQ2⟩
  case rest=>
    obtain⟨rfl,HXV,HBV⟩:=hcut
    generalize wc=V at HXV HBV ⊢
    clear x0 x1 x2 x3 x4 x5 x6 hxl hxf HX HBU HLAST
    have HBV2:=Aside0.mk (show Below w3.heap.size w3 V from HBV.out)
    have HLB:=Aside0.mk (LB.start HB3.out.f HBV.out)
    obtain⟨x0,x1,x2,x3,x4,x5,x6⟩:=mst_cells HXV.out
    have hxl:=heap_lt HXV.out
    have HCV:=Aside0.mk ((HBV.out.block cp hcl3).trans H3.out.box)
    obtain⟨y0,y1,y2,y3,y4,y5,y6,y7,y8⟩:=ck_cells HCV.out
    simp only at y2 y3 y4 y5 y6 y7 y8
    have hclv:=heap_lt HCV.out
    obtain⟨N0,hN0⟩ : ∃n,N=n:=⟨_,rfl⟩
    have HKE:=Aside0.mk (show ∀V',Below V.heap.size V V'→Calls Tryz.prog 108 #[.pointer (some ⟨dp,0,none⟩),.agg #[.int .i64 (ep+1),.int .i64 la,.int .i64 (ep+1),.int .i64 0,.int .i64 pg,.int .i64 bl,.int .i64 fr]] V' fun e w'=>e = .returned .nilIface∧∃R',LB Rb3 sp lp pp dp qp mp blocks frames { B.F with S:={ S with d:=keepD S.d ⟨ep+1,la,ep+1,0,pg,bl,fr⟩ } } w3 V R' w' from fun V' hb=>by
      have hl:=HLB.out.below hb
      have hpg:=HOK.out.g.pg
      have hlen:=hpg.len
      have hpa:=hpg.pages
      have hs3:=SentsAll.kp HS.out HC3.out.2 HO.out
      have hsv:=(hs3.below HBV.out).below hb
      have:=keep_calls a (Cut Rb3 w3.heap.size) dp S.d ⟨ep+1,la,ep+1,0,pg,bl,fr⟩ N V' (hsv.k _ (by decide)) (OutAll.k (OutAll.sub (OutAll.gr HO.out HS.out) fun k hk=>(H3.out.r k (HB3.out.r k hk.1).1).1) _ (by decide)) hl.f.sys.dsk hpg.good (by omega) (by rw[←HAM.out];exact HMO.out) (HOK.out.g.loose.mono (by have:=HMM.out;omega))
      refine this.mono ?_
      rintro e w' ⟨rfl,hd,hf⟩
      have hfu:FuseOk (keepD S.d ⟨ep+1,la,ep+1,0,pg,bl,fr⟩):=by
        have:=(keep_good (m:=⟨ep+1,la,ep+1,0,pg,bl,fr⟩) hpg.good (by omega)).1.fuse
        unfold FuseOk
        rw[this]
        omega
      exact⟨rfl,_,hl.step (FwM.sy hl.f (SysM.disk hl.f.sys hd hf hfu) (frm_sys1 hf))⟩)
    go_upto_region 12 with fail
    go_cut [9] (fun v9 wx=>v9 = .nilIface∧∃R',Aside0 (LB Rb3 sp lp pp dp qp mp blocks frames { B.F with S:={ S with d:=keepD S.d ⟨ep+1,la,ep+1,0,pg,bl,fr⟩ } } w3 V R' wx))
    case first=>
      go_region_law (first
        | (go_simp;go_at_call 108;refine (HKE.out _ (by repeat (first | exact Below.refl _ _ | apply below_drew1))).mono ?_;rintro e wk ⟨rfl,R2,hl2⟩;have HL2:=Aside0.mk hl2;clear hl2))
      all_goals
        go_wp2_with fail
        go_meet
        exact⟨rfl,R2,HL2⟩
    case rest=>
      obtain⟨rfl,R2,HL2⟩:=hcut
      generalize wc=V2 at HL2 ⊢
      clear x0 x1 x2 x3 x4 x5 x6 y0 y1 y2 y3 y4 y5 y6 y7 y8 hxl hclv HKE
      have HXV2:=Aside0.mk (HL2.out.at HXV.out (by rw[←HU.out.2];exact Nat.le_refl _))
      have HCV2:=Aside0.mk (HL2.out.k.at H3.out.box fun hr=>(H3.out.r cp (HB3.out.r cp hr).1).2 rfl)
      obtain⟨x0,x1,x2,x3,x4,x5,x6⟩:=mst_cells HXV2.out
      have hxl:=heap_lt HXV2.out
      obtain⟨y0,y1,y2,y3,y4,y5,y6,y7,y8⟩:=ck_cells HCV2.out
      simp only at y2 y3 y4 y5 y6 y7 y8
      have hclv:=heap_lt HCV2.out
      have hcf : ∀j,V2.frozen? ⟨cp,j,none⟩=false:=fun j=>by simp[World.frozen?,HCV2.out]
      have hp:=ckPut_ok (m':=⟨ep+1,la,ep+1,0,pg,bl,fr⟩) HCV2.out
      have hkp:=CkIn.bk H3.out (HB3.out.fw HL2.out.post)
      have hck:=CkM.turn hkp.1 hp.1 hp.2.1
      have hkk:=kp_turn hkp.2 H3.out.low H3.out.box hp.2.2 hp.2.1
      have HC5:=Aside0.mk (CkPost.trans HC3.out ⟨CkM.mono hck fun j hj=>Gr.grow (by rw[hp.2.2.2.2.2];exact Nat.le_refl _) hj,hkk⟩)
      have HX5:=Aside0.mk ((hp.2.1 b8 (by have:=HU.out.2;omega)).trans HXV2.out)
      clear hp hkp hck hkk
      obtain⟨V3,hV3⟩ : ∃V,ckPut V2 cp ⟨ep+1,la,ep+1,0,pg,bl,fr⟩=V:=⟨_,rfl⟩
      rw[hV3] at HC5 HX5
      have HV3:=Aside0.mk hV3
      unfold ckPut at HV3
      clear hV3
      go_upto_region 16 with fail
      rw[HV3.out]
      clear x0 x1 x2 x3 x4 x5 x6 y0 y1 y2 y3 y4 y5 y6 y7 y8 hxl hclv hcf
      obtain⟨x0,x1,_⟩:=mst_cells HX5.out
      have hxl:=heap_lt HX5.out
      obtain⟨R5,h5⟩:=HC5.out.1
      obtain⟨Rb5,sl5,hb5⟩:=h5.b
      obtain⟨k0,_⟩:=h5.cells
      obtain⟨b0,_⟩:=hb5.cells
      have hcl:=heap_lt h5.box
      have hbl:=heap_lt hb5.box
      have HOK5:=Aside0.mk (show (anewL S.l la (ep+1)).Ok from by
        have hmo:=HMO.out
        have hb:(anewM S ⟨ep,ba,re,ck,pg,bl,fr⟩).base=S.l.last:=rfl
        obtain⟨r1,_⟩:=res_ok HOK.out HTS.out hb hmo.epoch
        have:=r1.g.lok
        rw[HAM.out] at this
        exact this)
      have HAN:=Aside0.mk (show ∀V',Below V3.heap.size V3 V'→Calls Tryz.prog 109 #[.pointer (some ⟨sp,0,none⟩),.int .i64 la,.int .i64 (ep+1)] V' fun e w'=>e = .returned (.tuple #[])∧∃q,CkPost M cp bp bm sp lp pp dp q mp blocks frames { B with F:=resF B.F S (anewM S ⟨ep,ba,re,ck,pg,bl,fr⟩) } (anewM S ⟨ep,ba,re,ck,pg,bl,fr⟩) w w' from fun V' hb=>by
        have h6:=h5.below hb
        have hb6:=hb5.below hb
        refine (fanew_calls Rb5 sp lp pp dp qp mp blocks frames { B.F with S:={ S with d:=keepD S.d ⟨ep+1,la,ep+1,0,pg,bl,fr⟩ } } la (ep+1) V' hb6.f HOK5.out).mono ?_
        rintro e w' ⟨rfl,q,hp⟩
        refine⟨rfl,q,?_⟩
        rw[HAM.out]
        exact CkPost.trans HC5.out (CkPost.back (CkIn.bkQ h6 (BkIn.fwQ hb6 hp)) hb))
      clear h5 hb5
      go_region_law (first
        | (go_simp;go_at_call 109;refine (HAN.out _ (by repeat (first | exact Below.refl _ _ | apply below_drew1))).mono ?_;rintro e wk ⟨rfl,q,hl2⟩;have HL2:=Aside0.mk hl2;clear hl2))
      all_goals
        go_wp2_with fail
        go_ret
        with_reducible exact⟨rfl,q,HL2.out⟩
end Go.Proofs.YtaplpeoikebedaaGreatDoor.CkptA
namespace Go.Proofs.YtaplpeoikebedaaGreatDoor.RoundD
open Go.RowKit See Mem Page PageB PageR PageL Disk DiskW RecD Dirty Dirty2 Wal WalF PoolG PoolS PoolA SysD SysM Fresh FlushG TabL Pager StoreD PageM StoreF StoreG StoreH StoreI StoreJ StoreK StoreV StoreW LockT LockU BackL TwiceD ValD MasC CkptD ResetD
theorem idle {N m:Nat}{ch ch':Int→List Int}{kp kp':Int→Int}{F:FS}(h:FOk N m ch kp F)(hts:F.ts=[]):FOk N m ch' kp' F:=by
  have hno : ∀x∈F.ts,False:=fun x hx=>by rw[hts] at hx;exact List.not_mem_nil hx
  refine⟨h.g,h.t,⟨fun x hx=>(hno x hx).elim,fun x hx=>(hno x hx).elim,fun x hx=>(hno x hx).elim,?_,fun p p1 p2 l hn hl => ?_⟩⟩
  · have:=h.c.kept
    rw[hts] at this ⊢
    exact this
  · cases l with
    | nil=>exact h.c.cap p p1 p2 [] List.nodup_nil fun k hk=>(List.not_mem_nil hk).elim
    | cons k l=>
      obtain⟨_,_,x,hx,_⟩:=hl k List.mem_cons_self
      exact (hno x hx).elim
theorem no_ts {N m:Nat}{ch:Int→List Int}{kp:Int→Int}{F:FS}(h:FOk N m ch kp F)(hs:F.sess=1)(h0:F.of 0=0):F.ts=[]:=by
  rw[List.eq_nil_iff_forall_not_mem]
  intro x hx
  obtain⟨s,e⟩:=h.t.on x hx
  have h1:=(h.t.ids x hx).1
  obtain⟨a,b,_⟩:=h.t.ofs s (by rw[e];omega)
  have:s=0:=by omega
  rw[this,h0] at e
  omega
theorem put_log {N m:Nat}{ch:Int→List Int}{kp:Int→Int}{F F':FS}{n key v hint:Int}{q:Int×Bool}(h:FOk N m ch kp F)(hR:putR F n key v hint=(F',q.1,q.2,none)):F'.S.l.blocks=F.S.l.blocks∧F'.S.l.base=F.S.l.base∧F'.S.l.l.length=F.S.l.l.length+1:=by
  obtain⟨p1,p2⟩:=placeOf_in key h.g.pg.pages
  unfold putR at hR
  split at hR
  · simp only[Prod.mk.injEq] at hR
    exact absurd hR.2.2.2 (by simp)
  · split at hR
    · simp only[Prod.mk.injEq] at hR
      exact absurd hR.2.2.2 (by simp)
    · simp only[Prod.mk.injEq] at hR
      obtain⟨rfl,_⟩:=hR
      obtain⟨S',g1,g2,g3,g4⟩:=get_ok h hint p1 p2
      have hS:(takesF F n key 2 hint).S=S':=by unfold takesF;rw[g1]
      obtain⟨l1,l2,l3,l4,l5⟩:=g3.ll
      have e : ∀r,(chgS (takesF F n key 2 hint).S r).l=(addRec S' r).l:=fun r=>by rw[(chg_l (takesF F n key 2 hint).S r).1,hS]
      refine⟨?_,?_,?_⟩
      · show (chgS _ _).l.blocks=_
        rw[e];exact l3
      · show (chgS _ _).l.base=_
        rw[e];exact l2
      · show (chgS _ _).l.l.length=_
        rw[e]
        show (S'.l.l++[_]).length=_
        rw[List.length_append,l1]
        rfl
theorem commit_same {N m:Nat}{ch:Int→List Int}{kp:Int→Int}{F:FS}{n id k:Int}(h:FOk N m ch kp (markF F id 4 1)) :
    (∀p,1≤p→p≤F.P→cur (commitF F n id k).S p=cur F.S p)∧(commitF F n id k).S.l.blocks=F.S.l.blocks∧(commitF F n id k).S.l.last=F.S.l.last+2∧(commitF F n id k).S.frames=F.S.frames:=by
  obtain⟨f1,f2,f3,f4⟩:=flush_ok h
  obtain⟨l1,l2,l3,l4,l5⟩:=f4.ll
  refine⟨fun p p1 p2 => ?_,?_,?_,?_⟩
  · show cur (addRec (flushF (markF F id 4 1)).S _) p=_
    rw[addRec_cur,f4.cur p p1 p2]
    show cur (addRec F.S _) p=_
    rw[addRec_cur]
  · show (flushF (markF F id 4 1)).S.l.blocks=_
    rw[l3]
    rfl
  · show (addRec (flushF (markF F id 4 1)).S _).l.last=_
    rw[addRec_last,(room_done (L:=(markF F id 4 1).S.l) ⟨l2,l3,l1⟩).2]
    show (addRec F.S _).l.last+1=_
    rw[addRec_last]
    omega
  · show (flushF (markF F id 4 1)).S.frames=_
    rw[f4.frames]
    rfl
structure IdS (N:Nat) (p i:Int) (F:FS):Prop where
  ok:FOk N 0 (fun _=>[]) (fun _=>2) F
  ts:F.ts=[]
  same:F.P=3∧F.sess=1∧F.most=i∧F.of 0=0∧F.S.frames=2
  ks:F.ks=[]
  free:F.free=48
  kept:F.kept=0
  last:F.S.l.last=i*(p+3)
  bl:F.S.l.blocks=8
  val_ : ∀j,vals F j=if 0≤j∧j<p∧0<i then some (10*(i - 1)+j) else none
  keys:PgK F
structure PuS (N k:Nat) (p i:Int) (F:FS):Prop where
  ok : ∃ch,FOk N k ch (fun _=>2) F
  same:F.P=3∧F.sess=1∧F.most=i+1∧F.of 0=i+1∧F.S.frames=2
  has_:thas F.ts (i+1)=true
  kok:KOk (fun _=>0) F.ks
  kl:F.ks.length≤k
  free:F.free=45 - 2*(k:Int)
  last:F.S.l.last=i*(p+3)+1+k
  bl:F.S.l.blocks=8
  val_ : ∀j,vals F j=if 0≤j∧j<k then some (10*i+j) else if 0≤j∧j<p∧0<i then some (10*(i - 1)+j) else none
  keys:PgK F
theorem id_start (p:Int):IdS (1+3+8:Int).toNat p 0 (newF 3 8 2 1):=by
  have hcur : ∀q,1≤q→q≤3→cur (newF 3 8 2 1).S q=(0,[]):=fun q p1 p2=>cur_new (by omega) (by omega)
  refine⟨new_ok (P:=3) (blocks:=8) (frames:=2) (sess:=1) 0 (by omega) (by omega) (by omega),rfl,⟨rfl,rfl,rfl,rfl,rfl⟩,rfl,rfl,rfl,?_,rfl,fun j => ?_,fun q p1 p2 e he => ?_⟩
  · show (0:Int)+((0:Nat):Int)=_
    omega
  · obtain⟨q1,q2⟩:=placeOf_in j (show (1:Int)≤3 by omega)
    have hv:vals (newF 3 8 2 1) j=none:=by
      show val (cur (newF 3 8 2 1).S (placeOf j 3)).2 j=_
      rw[hcur _ q1 q2]
      rfl
    rw[hv,if_neg (by omega)]
  · rw[hcur q p1 p2] at he
    exact (List.not_mem_nil he).elim
theorem id_begin {N:Nat}{p i:Int}{F:FS}(h:IdS N p i F)(hi:0≤i∧i≤100):PuS N 0 p i (beginF F 0)∧3≤F.free∧F.most<60000:=by
  obtain⟨s1,s2,s3,s4,s5⟩:=h.same
  have hf:=h.free
  have hb:=begin_ok (n:=0) h.ok rfl (Int.le_refl 0) (by omega) s4 (by omega) (by omega)
  refine⟨⟨⟨_,hb⟩,⟨s1,s2,by show F.most+1=_;omega,by show upd F.of 0 (F.most+1) 0=_;unfold upd;rw[if_pos rfl,s3],s5⟩,?_,by show KOk _ F.ks;rw[h.ks];exact KOk.nil _,by show F.ks.length≤0;rw[h.ks];exact Nat.le_refl 0,by show F.free - 3=_;omega,?_,h.bl,fun j => ?_,fun q p1 p2 e he=>h.keys q p1 p2 e he⟩,by omega,by omega⟩
  · have:=(hb.t.ofs 0 (by show upd F.of 0 (F.most+1) 0≠0;unfold upd;rw[if_pos rfl];omega)).2.2
    have e:(beginF F 0).of 0=i+1:=by show upd F.of 0 (F.most+1) 0=_;unfold upd;rw[if_pos rfl,s3]
    rw[e] at this
    exact this
  · show (addRec F.S _).l.last=_
    rw[addRec_last,h.last]
    omega
  · have:vals (beginF F 0) j=vals F j:=rfl
    rw[this,h.val_,if_neg (show ¬(0≤j∧j<((0:Nat):Int)) by omega)]
theorem pu_put {N k:Nat}{p i:Int}{F:FS}(h:PuS N k p i F)(hk:(k:Int)<p)(hp:p≤6)(hi:0≤i∧i≤100)(hint:Int) : ∃F',putR F 0 k (10*i+k) hint=(F',(vals F k).getD 0,decide (0<i),none)∧PuS N (k+1) p i F':=by
  obtain⟨ch,hok⟩:=h.ok
  obtain⟨s1,s2,s3,s4,s5⟩:=h.same
  obtain⟨p1,p2⟩:=placeOf_in (k:Int) hok.g.pg.pages
  obtain⟨t1,t2,t3,t4,t5,t6,t7,t8,t9⟩:=takes_ok (key:=(k:Int)) (n:=0) hok h.kok rfl ⟨by omega,by omega⟩ hint
  have hcur:=t5 _ p1 p2
  have hP:(takesF F 0 k 2 hint).P=F.P:=rfl
  have hrise:Rising (cur F.S (placeOf (k:Int) F.P)).2:=PageV.rise (hok.g.pg.curV p1 p2)
  have hmore:=more_le (takesF F 0 k 2 hint) k
  have hkl:=h.kl
  have hlen:(cur F.S (placeOf (k:Int) F.P)).2.length≤6:=by
    have hnd:((cur F.S (placeOf (k:Int) F.P)).2.map (·.1)).Nodup:=by
      unfold List.Nodup
      rw[List.pairwise_map]
      exact hrise.imp fun hab e=>by omega
    have:=nodup_sub hnd (b:=FullD.rng 0 6) fun x hx=>by
      obtain⟨e,he,rfl⟩:=List.mem_map.1 hx
      have h3:=h.keys _ p1 p2 e he
      have h4:vals F e.1=some e.2:=by
        unfold vals
        rw[h3]
        exact (val_some hrise e.1 e.2).2 he
      rw[h.val_] at h4
      rw[FullD.rng_mem]
      by_cases q:0≤e.1∧e.1<k
      · omega
      · rw[if_neg q] at h4
        by_cases q2:0≤e.1∧e.1<p∧0<i
        · omega
        · rw[if_neg q2] at h4;cases h4
    rw[List.length_map,FullD.rng_len] at this
    omega
  have hnf:(vals F k).isSome=true∨fullB (takesF F 0 k 2 hint) k=false:=.inr (by
    unfold fullB
    rw[hP,hcur]
    simp
    omega)
  have hid:thas F.ts (F.of 0)=true:=by rw[s4];exact h.has_
  have hf2:=h.free
  have hv64:is64 (10*i+(k:Int)):=by unfold is64;omega
  obtain⟨F',e1,e2,e3,e4⟩:=chg_put (n:=0) (key:=(k:Int)) (v:=10*i+k) (hint:=hint) hok h.kok rfl hid ⟨by omega,by omega⟩ hv64 (by omega) hnf
  have hK:=pgk_put hok h.keys h.kok rfl hid ⟨by omega,by omega⟩ hv64 (by omega) hnf e1
  obtain⟨g1,g2,g3⟩:=put_log (q:=(_,_)) hok e1
  have hsm:(vals F k).isSome=decide (0<i):=by
    rw[h.val_,if_neg (by omega)]
    by_cases q:0<i
    · rw[if_pos ⟨by omega,by omega,q⟩,decide_eq_true q];rfl
    · rw[if_neg (by omega),decide_eq_false q];rfl
  rw[hsm] at e1
  rw[s4] at e2
  obtain⟨q1,q2,q3,q4,q5,q6⟩:=e2.same
  have hlast:=e2.last
  refine⟨F',e1,⟨⟨_,e2.ok⟩,⟨q1.trans s1,q2.trans s2,q3.trans s3,by rw[q4,s4],by rw[q6];exact s5⟩,e2.has_,e3,by rw[e4];have:=len_takeL F.ks 0 k 2;omega,by rw[q5,hf2];push_cast;omega,by rw[hlast,h.last];push_cast;omega,by rw[g1];exact h.bl,fun j => ?_,hK⟩⟩
  rw[e2.vals_,h.val_]
  by_cases e:j=k
  · rw[if_pos e,if_pos (by push_cast;omega),e]
  · rw[if_neg e]
    by_cases e2:(0:Int)≤j∧j<k
    · rw[if_pos e2,if_pos (by push_cast;omega)]
    · rw[if_neg e2,if_neg (show ¬(0≤j∧j<((k+1:Nat):Int)) by push_cast;omega)]
structure CmS (N:Nat) (p i:Int) (F:FS):Prop where
  ok : ∃ch kp,FOk N 10 ch kp F
  ts:F.ts=[]
  same:F.P=3∧F.sess=1∧F.most=i+1∧F.of 0=0∧F.S.frames=2
  ks:F.ks=[]
  last:F.S.l.last=(i+1)*(p+3)
  bl:F.S.l.blocks=8
  val_ : ∀j,vals F j=if 0≤j∧j<p then some (10*i+j) else none
  keys:PgK F
theorem pu_commit {N k:Nat}{p i:Int}{F:FS}(h:PuS N k p i F)(hk:(k:Int)=p)(hp:p≤6) : ∃ch,FOk N k ch (fun _=>2) F∧CommitOk N k ch (fun _=>2) F 0 (i+1)∧CmS N p i (commitF F 0 (i+1) ((ch (i+1)).length:Int)):=by
  obtain⟨ch,hok⟩:=h.ok
  obtain⟨s1,s2,s3,s4,s5⟩:=h.same
  have hc:=commit_ok (n:=0) hok h.has_ s4 rfl (fun _=>by omega)
  obtain⟨c1,c2,c3,c4⟩:=commit_same (n:=0) (k:=((ch (i+1)).length:Int)) hc.ok1
  have hof:(commitF F 0 (i+1) ((ch (i+1)).length:Int)).of 0=0:=by
    show upd F.of 0 0 0=0
    unfold upd
    rw[if_pos rfl]
  have hvals : ∀j,vals (commitF F 0 (i+1) ((ch (i+1)).length:Int)) j=vals F j:=fun j=>by
    obtain⟨p1,p2⟩:=placeOf_in j hok.g.pg.pages
    unfold vals
    show val (cur _ (placeOf j F.P)).2 j=_
    rw[c1 _ p1 p2]
  refine⟨ch,hok,hc,⟨⟨_,_,FOk.loosen hc.ok3 (by omega)⟩,no_ts hc.ok3 s2 hof,⟨s1,s2,s3,hof,by rw[c4];exact s5⟩,?_,?_,by rw[c2];exact h.bl,fun j => ?_,fun q p1 p2 e he => ?_⟩⟩
  · show freeL F.ks 0=[]
    unfold freeL
    rw[List.filter_eq_nil_iff]
    intro x hx e
    have:=h.kok.own x hx
    simp at e
    exact e this.symm
  · rw[c3,h.last,hk,Int.add_mul]
    omega
  · rw[hvals,h.val_,hk]
    by_cases e:0≤j∧j<p
    · rw[if_pos e,if_pos e]
    · rw[if_neg e,if_neg e,if_neg (by omega)]
  · have hq:q≤F.P:=p2
    rw[c1 q p1 hq] at he
    exact h.keys q p1 hq e he
theorem cm_reset {N:Nat}{p i:Int}{F:FS}(h:CmS N p i F)(hp:0≤p∧p≤6)(hi:0≤i∧i≤100){m:Mst}(hb:m.base=(i+1)*(p+3))(he:1≤m.epoch∧m.epoch≤1073741824) :
    ∃S,flushAllS F.S=(S,none)∧(∃ch kp,FOk N 10 ch kp { F with S:=S })∧S.l.last=(i+1)*(p+3)∧F.S.l.l.length≤4000∧IdS N p (i+1) (resF F S m)∧∀s∈(resF F S m).S.d.l,s.loose=[]:=by
  obtain⟨ch,kp,hok⟩:=h.ok
  obtain⟨s1,s2,s3,s4,s5⟩:=h.same
  obtain⟨S,e1,e2,e3,e4⟩:=all_ok hok
  obtain⟨l1,l2,l3,l4,l5⟩:=e3.ll
  have hla:S.l.last=(i+1)*(p+3):=by rw[←h.last];exact (room_done (L:=F.S.l) ⟨l2,l3,l1⟩).2
  obtain⟨r1,r2,r3,r4⟩:=res_ok (m:=m) e2 h.ts (hb.trans hla.symm) he
  have hlo:LooseLe (resF F S m).S.d 0:=fun s hs=>by rw[r4 s hs];exact Nat.le_refl 0
  have hlen:=hok.g.lok.len
  rw[h.bl] at hlen
  have hmul:0≤(i+1)*(p+3)∧(i+1)*(p+3)≤909:=by
    constructor
    · exact Int.mul_nonneg (by omega) (by omega)
    · calc (i+1)*(p+3)≤101*(p+3):=Int.mul_le_mul_of_nonneg_right (by omega) (by omega)
        _≤909:=by omega
  have hroom:(anewL S.l m.base m.epoch).room=48:=by
    unfold Lg.room Lg.last anewL
    show max (min (S.l.blocks*6 - ((0:Nat):Int)) (1073741824 - (m.base+((0:Nat):Int)))) 0=48
    rw[l3,h.bl,hb]
    omega
  have hcur : ∀q,1≤q→q≤3→cur (resF F S m).S q=cur F.S q:=fun q p1 p2=>by
    show cur (resS S m) q=_
    rw[res_cur e2.g.pg.good (by have:=e2.g.pg.len;have:=e2.g.pg.pages;omega) p1]
    exact e3.cur q p1 (by rw[s1];exact p2)
  refine⟨S,e1,⟨ch,kp,e2⟩,hla,by omega,⟨idle (N:=N) (m:=0) (ch:=ch) (kp:=kp) ⟨⟨r1.g.pg,r1.g.fit,r1.g.lok,r1.g.fuse,hlo,r1.g.lsn,r1.g.six,r1.g.p32,r1.g.room⟩,r1.t,r1.c⟩ h.ts,h.ts,⟨s1,s2,s3,s4,?_⟩,h.ks,hroom,rfl,by rw[r3];exact hla,?_,fun j => ?_,fun q p1 p2 e he => ?_⟩,r4⟩
  · show S.frames=2
    rw[e3.frames];exact s5
  · show S.l.blocks=8
    rw[l3];exact h.bl
  · have:vals { F with S:=S } j=vals F j:=vals_to hok.g.pg.pages e3 j
    rw[r2,this,h.val_]
    by_cases e:0≤j∧j<p
    · rw[if_pos e,if_pos ⟨e.1,e.2,by omega⟩]
      congr 1
      omega
    · rw[if_neg e,if_neg (by omega)]
  · have hq:q≤3:=by
      have:q≤F.P:=p2
      omega
    rw[hcur q p1 hq] at he
    show placeOf e.1 F.P=q
    exact h.keys q p1 (by omega) e he
theorem pu_read {N:Nat}{p i:Int}{F:FS}(h:PuS N 0 p i F):RSt N 0 (fun j=>if 0≤j∧j<p∧0<i then some (10*(i - 1)+j) else none) F:=by
  obtain⟨ch,hok⟩:=h.ok
  obtain⟨s1,s2,s3,s4,s5⟩:=h.same
  exact⟨⟨ch,_,hok⟩,fun x hx=>(h.kok.own x hx).symm,h.kl,s2,by rw[s4];exact h.has_,fun j=>by rw[h.val_,if_neg (by omega)]⟩
end Go.Proofs.YtaplpeoikebedaaGreatDoor.RoundD
namespace Go.Proofs.YtaplpeoikebedaaGreatDoor.RefM
open Go.RowKit YtaplpeoikebedaaGreatDoorW.PrintWords YtaplpeoikebedaaGreatDoorW.PrintLast YtaplpeoikebedaaGreatDoorW.PrintMore
open RefN See Mem Clone Go.Proofs.YtaplpeoikebedaaGreatDoor.Cell Page PageB PageR Disk DiskN
attribute [local go_sem] max2_imax min2_imin max_two min_two
theorem mas7g {w:World}{b:Nat}{x0 x1 x2 x3 x4 x5 x6:Value}(h:w.heap[b]? = some (.cells #[x0,x1,x2,x3,x4,x5,x6] 84 (0,0))) :
    w.cell? ⟨b,0,none⟩=some x0∧w.cell? ⟨b,1,none⟩=some x1∧w.cell? ⟨b,2,none⟩=some x2∧w.cell? ⟨b,3,none⟩=some x3∧w.cell? ⟨b,4,none⟩=some x4∧w.cell? ⟨b,5,none⟩=some x5∧w.cell? ⟨b,6,none⟩=some x6:=by
  refine⟨?_,?_,?_,?_,?_,?_,?_⟩<;>simp[World.cell?,h]
theorem rnew2_calls (m0 m1 m2 m3 m4 m5 m6 c0 c1 c2 c3:Int)(dp pp:Nat)(l m:Value)(lp:Nat)(w:World)(hm:m = .agg #[.int .i64 m0,.int .i64 m1,.int .i64 m2,.int .i64 m3,.int .i64 m4,.int .i64 m5,.int .i64 m6])(hl:l = .pointer (some ⟨lp,0,none⟩))(hc1:0≤c1∧c1≤100)(k2:w.cell? ⟨lp,2,none⟩=some (.int .i64 c1))(k3:w.cell? ⟨lp,3,none⟩=some (.int .i64 0))(k5:w.cell? ⟨lp,5,none⟩=some (.slice none 0 0)) :
    Calls Tryz.prog 83 #[.agg #[.int .i64 c0,.int .i64 c1,.int .i64 c2,.int .i64 c3],.pointer (some ⟨dp,0,none⟩),l,.pointer (some ⟨pp,0,none⟩),.int .i64 0,m] w fun e w' => ∃q,e = .returned (.pointer (some ⟨q,0,none⟩))∧Below w.heap.size w w':=by
  subst hl
  subst hm
  have HR:=Aside0.mk (fun (V:World) (hb:Below w.heap.size w V)=>rroom_calls lp c1 V hc1 (pw_cell_below hb k2) (pw_cell_below hb k3) (pw_cell_below hb k5))
  clear k2 k3 k5
  obtain⟨W,hW⟩ : ∃W,(w.alloc (.cells #[.int .i64 c0,.int .i64 c1,.int .i64 c2,.int .i64 c3] 31)).alloc (.cells #[.int .i64 m0,.int .i64 m1,.int .i64 m2,.int .i64 m3,.int .i64 m4,.int .i64 m5,.int .i64 m6] 84)=W:=⟨_,rfl⟩
  have HBW:=Aside0.mk (show Below w.heap.size w W by rw[←hW];repeat (first | exact Below.refl _ _ | apply below_alloc))
  have HCF:=Aside0.mk (show W.heap[w.heap.size]? = some (.cells #[.int .i64 c0,.int .i64 c1,.int .i64 c2,.int .i64 c3] 31 (0,0)) by
    rw[←hW];exact (Below.heap_alloc _ _ _ (by show _<(w.heap.push _).size;rw[Array.size_push];omega)).trans (heap_alloc_new w _))
  have HMA:=Aside0.mk (show W.heap[w.heap.size+1]? = some (.cells #[.int .i64 m0,.int .i64 m1,.int .i64 m2,.int .i64 m3,.int .i64 m4,.int .i64 m5,.int .i64 m6] 84 (0,0)) by
    rw[←hW]
    have:=heap_alloc_new (w.alloc (.cells #[.int .i64 c0,.int .i64 c1,.int .i64 c2,.int .i64 c3] 31)) (.cells #[.int .i64 m0,.int .i64 m1,.int .i64 m2,.int .i64 m3,.int .i64 m4,.int .i64 m5,.int .i64 m6] 84)
    rw[show (w.alloc (.cells #[.int .i64 c0,.int .i64 c1,.int .i64 c2,.int .i64 c3] 31)).heap.size=w.heap.size+1 from by show (w.heap.push _).size=_;rw[Array.size_push]] at this
    exact this)
  obtain⟨a0,a1,a2,a3⟩:=cfg4 HCF.out
  obtain⟨e0,e1,e2,e3,e4,e5,e6⟩:=mas7g HMA.out
  have HWE:=Aside0.mk hW
  clear hW
  go_enter Tryz.func83,Tryz.ntmps83
  go_upto_region 1 with fail
  rw[HWE.out]
  go_cut [13] (fun v13 wx => ∃(q:Nat),v13 = .pointer (some ⟨q,0,none⟩)∧Aside0 (wx.cell? ⟨q,10,none⟩=some (.int .i64 0)∧wx.frozen? ⟨q,10,none⟩=false)∧Aside0 (w.heap.size≤q)∧Aside0 (Below w.heap.size w wx))
  case first=>
    go_region_law (first
      | (go_simp;go_at_call 141;refine (HR.out _ (by repeat (first | exact HBW.out | apply below_drew1 | apply below_alloc))).mono ?_;rintro e wa ⟨rr,rfl,hba⟩;obtain⟨b0,b1,b2,b3⟩:=cfg4 ((hba.block _ (heap_lt HCF.out)).trans HCF.out);obtain⟨f0,f1,f2,f3,f4,f5,f6⟩:=mas7g ((hba.block _ (heap_lt HMA.out)).trans HMA.out))
      | (go_simp;go_at_call 140;refine (rspace_calls rr _).mono ?_;rintro e wb ⟨pb,rfl,hbb⟩;have hbc:=below_step hba hbb;obtain⟨g0,g1,g2,g3⟩:=cfg4 ((hbc.block _ (heap_lt HCF.out)).trans HCF.out);obtain⟨h0,h1,h2,h3,h4,h5,h6⟩:=mas7g ((hbc.block _ (heap_lt HMA.out)).trans HMA.out)))
    all_goals
      have hwb:=below_step HBW.out (show Below W.heap.size W wb from⟨hbc.os,hbc.tape,hbc.output,hbc.size,hbc.block⟩)
      have hws:=hwb.size
      clear a0 a1 a2 a3 e0 e1 e2 e3 e4 e5 e6 b0 b1 b2 b3 f0 f1 f2 f3 f4 f5 f6 g0 g1 g2 g3 h0 h1 h2 h3 h4 h5 h6
      go_wp2_with fail
      go_meet
      exact⟨_,rfl,⟨cellx (heap_alloc_new _ _) rfl⟩,⟨hws⟩,⟨by repeat (first | exact hwb | apply below_drew1 | apply below_alloc)⟩⟩
  case rest=>
    obtain⟨q,rfl,HQ,HQL,HB⟩:=hcut
    generalize wc=V at HQ HB ⊢
    clear a0 a1 a2 a3 e0 e1 e2 e3 e4 e5 e6
    go_wp2_with fail
    refine (rseen_calls q 9 _ HQ.out.1 HQ.out.2).mono ?_
    rintro e V2 ⟨⟨v,rfl⟩,v2,rfl⟩
    have HF:=Aside0.mk (show Below w.heap.size w (V.setCell ⟨q,10,none⟩ v) from HB.out.setCell HQL.out v)
    generalize V.setCell ⟨q,10,none⟩ v=V3 at HF ⊢
    go_wp2_with fail
    go_ret
    first
      | exact⟨⟨_,rfl⟩,HF.out⟩
      | exact⟨_,rfl,HF.out⟩
end Go.Proofs.YtaplpeoikebedaaGreatDoor.RefM
