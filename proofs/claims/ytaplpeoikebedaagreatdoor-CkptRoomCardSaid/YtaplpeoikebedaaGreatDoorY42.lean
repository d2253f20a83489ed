/- Joined texts: CkptX, First19. No condition but what each says. -/
import Derived.Test.YtaplpeoikebedaaGreatDoorY39
import Derived.Test.YtaplpeoikebedaaGreatDoorY38
import Derived.Test.YtaplpeoikebedaaGreatDoorY41
set_option maxHeartbeats 8000000
set_option maxRecDepth 100000
set_option linter.unusedVariables false
set_option linter.unusedSimpArgs false
namespace Go.Proofs.YtaplpeoikebedaaGreatDoor.CkptX
open Go.RowKit Go.Maps YtaplpeoikebedaaGreatDoorW.PrintWords YtaplpeoikebedaaGreatDoorW.PrintLast YtaplpeoikebedaaGreatDoorW.PrintMore
open See Mem Page PageR PageL Disk DiskW DiskS RecD Rec BlockB Wal WalF Pool2 SysD SysM Fresh Pager StoreD StoreF StoreI StoreJ TransT SpaceT FwdM FwdP BackL BackM BackU MasC MasT CkptM CkptK CkptR CkptP CkptW CkptC
attribute [local go_sem] max2_imax min2_imin max_two min_two
theorem ck_cells {w:World}{cp bp dp:Nat}{m:Mst}(h:w.heap[cp]? = some (.cells (ckCells bp dp m) 86 (0,0))):w.cell? ⟨cp,0,none⟩=some (.pointer (some ⟨bp,0,none⟩))∧w.cell? ⟨cp,1,none⟩=some (.pointer (some ⟨dp,0,none⟩))∧w.cell? ⟨cp,2,none⟩=some (.int .i64 m.epoch)∧w.cell? ⟨cp,3,none⟩=some (.int .i64 m.base)∧w.cell? ⟨cp,4,none⟩=some (.int .i64 m.reset)∧w.cell? ⟨cp,5,none⟩=some (.int .i64 m.ckpt)∧w.cell? ⟨cp,6,none⟩=some (.int .i64 m.pages)∧w.cell? ⟨cp,7,none⟩=some (.int .i64 m.blocks)∧w.cell? ⟨cp,8,none⟩=some (.int .i64 m.frames):=by
  refine⟨?_,?_,?_,?_,?_,?_,?_,?_,?_⟩<;>simp[World.cell?,h,ckCells]
theorem spMM {M:Nat→Prop}{w:World}{sp lp pp dp qp mp:Nat}{blocks frames:Int}{F:FS}(h:FwM M w sp lp pp dp qp mp blocks frames F) : ∃tv,w.cell? ⟨sp,8,none⟩=some tv∧TR w tv F.ts∧w.cell? ⟨sp,9,none⟩=some (.int .i64 F.most):=by
  obtain⟨kv,tv,b1,b2,b3,b4,b5⟩:=h.box
  exact⟨tv,by simp[World.cell?,b1,fwCells],b4,by simp[World.cell?,b1,fwCells]⟩
def mstPut (w:World)(b:Nat)(m:Mst):World:=((((((w.setCell ⟨b,0,none⟩ (.int .i64 m.epoch)).setCell ⟨b,1,none⟩ (.int .i64 m.base)).setCell ⟨b,2,none⟩ (.int .i64 m.reset)).setCell ⟨b,3,none⟩ (.int .i64 m.ckpt)).setCell ⟨b,4,none⟩ (.int .i64 m.pages)).setCell ⟨b,5,none⟩ (.int .i64 m.blocks)).setCell ⟨b,6,none⟩ (.int .i64 m.frames)
def ckPut (w:World)(b:Nat)(m:Mst):World:=((((((w.setCell ⟨b,2,none⟩ (.int .i64 m.epoch)).setCell ⟨b,3,none⟩ (.int .i64 m.base)).setCell ⟨b,4,none⟩ (.int .i64 m.reset)).setCell ⟨b,5,none⟩ (.int .i64 m.ckpt)).setCell ⟨b,6,none⟩ (.int .i64 m.pages)).setCell ⟨b,7,none⟩ (.int .i64 m.blocks)).setCell ⟨b,8,none⟩ (.int .i64 m.frames)
theorem mstPut_ok {w:World}{b:Nat}{m:Mst}(h:w.heap[b]? = some (.cells #[.int .i64 0,.int .i64 0,.int .i64 0,.int .i64 0,.int .i64 0,.int .i64 0,.int .i64 0] 84 (0,0))) :
    (mstPut w b m).heap[b]? = some (.cells #[.int .i64 m.epoch,.int .i64 m.base,.int .i64 m.reset,.int .i64 m.ckpt,.int .i64 m.pages,.int .i64 m.blocks,.int .i64 m.frames] 84 (0,0))∧(∀j,j≠b→(mstPut w b m).heap[j]? = w.heap[j]?)∧(mstPut w b m).heap.size=w.heap.size∧∀B,B≤b→Below B w (mstPut w b m):=by
  have g0:=heap_setCell_same w b 0 _ _ (.int .i64 m.epoch) h
  have g1:=heap_setCell_same _ b 1 _ _ (.int .i64 m.base) g0
  have g2:=heap_setCell_same _ b 2 _ _ (.int .i64 m.reset) g1
  have g3:=heap_setCell_same _ b 3 _ _ (.int .i64 m.ckpt) g2
  have g4:=heap_setCell_same _ b 4 _ _ (.int .i64 m.pages) g3
  have g5:=heap_setCell_same _ b 5 _ _ (.int .i64 m.blocks) g4
  have g6:=heap_setCell_same _ b 6 _ _ (.int .i64 m.frames) g5
  refine⟨g6,fun j hj => ?_,by unfold mstPut;simp[World.setCell],fun B hB => ?_⟩
  · unfold mstPut
    rw[Below.heap_setCell _ _ _ _ hj,Below.heap_setCell _ _ _ _ hj,Below.heap_setCell _ _ _ _ hj,Below.heap_setCell _ _ _ _ hj,Below.heap_setCell _ _ _ _ hj,Below.heap_setCell _ _ _ _ hj,Below.heap_setCell _ _ _ _ hj]
  · exact ((((((((Below.refl _ _).setCell hB _).setCell hB _).setCell hB _).setCell hB _).setCell hB _).setCell hB _).setCell hB _)
theorem ckPut_ok {w:World}{b bp dp:Nat}{m m':Mst}(h:w.heap[b]? = some (.cells (ckCells bp dp m) 86 (0,0))) :
    (ckPut w b m').heap[b]? = some (.cells (ckCells bp dp m') 86 (0,0))∧(∀j,j≠b→(ckPut w b m').heap[j]? = w.heap[j]?)∧((ckPut w b m').os=w.os∧(ckPut w b m').tape=w.tape∧(ckPut w b m').output=w.output∧(ckPut w b m').heap.size=w.heap.size):=by
  have g0:=heap_setCell_same w b 2 _ _ (.int .i64 m'.epoch) h
  have g1:=heap_setCell_same _ b 3 _ _ (.int .i64 m'.base) g0
  have g2:=heap_setCell_same _ b 4 _ _ (.int .i64 m'.reset) g1
  have g3:=heap_setCell_same _ b 5 _ _ (.int .i64 m'.ckpt) g2
  have g4:=heap_setCell_same _ b 6 _ _ (.int .i64 m'.pages) g3
  have g5:=heap_setCell_same _ b 7 _ _ (.int .i64 m'.blocks) g4
  have g6:=heap_setCell_same _ b 8 _ _ (.int .i64 m'.frames) g5
  have hB:(0:Nat)≤b:=Nat.zero_le _
  have hb0:Below 0 w (ckPut w b m'):=((((((((Below.refl _ _).setCell hB _).setCell hB _).setCell hB _).setCell hB _).setCell hB _).setCell hB _).setCell hB _)
  refine⟨g6,fun j hj => ?_,hb0.os,hb0.tape,hb0.output,by unfold ckPut;simp[World.setCell]⟩
  unfold ckPut
  rw[Below.heap_setCell _ _ _ _ hj,Below.heap_setCell _ _ _ _ hj,Below.heap_setCell _ _ _ _ hj,Below.heap_setCell _ _ _ _ hj,Below.heap_setCell _ _ _ _ hj,Below.heap_setCell _ _ _ _ hj,Below.heap_setCell _ _ _ _ hj]
theorem k5_of {w5:World}{cp bp dp:Nat}{ep ba re ck pg bl fr:Int}(h:w5.heap[cp]? = some (.cells (ckCells bp dp ⟨ep,ba,re,ck,pg,bl,fr⟩) 86 (0,0))):w5.cell? ⟨cp,1,none⟩=some (.pointer (some ⟨dp,0,none⟩))∧w5.cell? ⟨cp,2,none⟩=some (.int .i64 ep)∧w5.cell? ⟨cp,3,none⟩=some (.int .i64 ba)∧w5.cell? ⟨cp,4,none⟩=some (.int .i64 re)∧w5.cell? ⟨cp,5,none⟩=some (.int .i64 ck)∧w5.cell? ⟨cp,6,none⟩=some (.int .i64 pg)∧w5.cell? ⟨cp,7,none⟩=some (.int .i64 bl)∧w5.cell? ⟨cp,8,none⟩=some (.int .i64 fr):=(ck_cells h).2
theorem cell_same {w W:World}{b j:Nat}(h:W.heap[b]? = w.heap[b]?):W.cell? ⟨b,j,none⟩=w.cell? ⟨b,j,none⟩:=by simp only[World.cell?,h]
section
variable {M:Nat→Prop}{sp lp pp dp qp mp:Nat}{blocks frames:Int}{F:FS}{w V0 w3 W:World}{R:Nat→Prop}
theorem LB.cut (h:LB M sp lp pp dp qp mp blocks frames F w V0 R w3):LB M sp lp pp dp qp mp blocks frames F w V0 (Cut R w3.heap.size) w3:=
  ⟨FwM.cut h.f,fun k hk=>h.r k hk.1,fun j h1 h2 hc=>h.nn j h1 h2 hc.1,h.k,h.loc,h.sz⟩
theorem LB.turn (h:LB M sp lp pp dp qp mp blocks frames F w V0 R w3){b:Nat}(hb:V0.heap.size≤b)(hw:w.heap.size≤b)(hn : ¬R b){c:Array Value}(hc:w3.heap[b]? = some (.cells c 84 (0,0)))(ho : ∀j,j≠b→W.heap[j]? = w3.heap[j]?)(hB:Below w.heap.size w3 W)(hz:W.heap.size=w3.heap.size):LB M sp lp pp dp qp mp blocks frames F w V0 R W:=by
  have k:=h.k
  refine⟨Go.Proofs.YtaplpeoikebedaaGreatDoor.FwdT.FwM.but h.f ho hn ⟨by rw[tag_of hc];decide,by rw[tag_of hc];decide⟩,fun j hj => ?_,h.nn,⟨hB.os.trans k.os,hB.tape.trans k.tape,hB.output.trans k.output,Nat.le_trans k.size hB.size,fun j hj hn=>(hB.block j hj).trans (k.block j hj hn),fun j hj ht=>(hB.block j hj).trans (k.ent j hj ht)⟩,fun j h1 h2=>(ho j (by omega)).trans (h.loc j h1 h2),by rw[hz];exact h.sz⟩
  rcases h.r j hj with q | ⟨q1,q2⟩
  · exact .inl q
  · exact .inr ⟨q1,by rw[hz];exact q2⟩
end
theorem ckpt_calls (a:Nat→Addr)(M:Nat→Prop)(cp bp bm sp lp pp dp qp mp:Nat)(blocks frames:Int)(B:BSt)(m:Mst)(N mm:Nat)(ch:Int→List Int)(kp:Int→Int)(w:World)(h:CkM M w cp bp bm sp lp pp dp qp mp blocks frames B m)(hok:FOk N mm ch kp B.F)(hst : ∀x∈B.F.ts,0≤x.state∧x.state≤2)(hfree:((2+B.F.ts.length+B.F.S.t.length:Nat):Int)≤B.F.free)(hm:MOk m)(hba:m.base≤B.F.S.l.last)(hmm:mm≤30000)(hs:SentsAll w a)(hO:OutAll M a) :
    Calls Tryz.prog 43 #[.pointer (some ⟨cp,0,none⟩)] w fun e w'=>e = .returned .nilIface∧CkPost M cp bp bm sp lp pp dp qp mp blocks frames { B with F:=ckF B.F m } (ckM B.F m) w w':=by
  obtain⟨R,h⟩:=h
  obtain⟨Rb,sl,hb⟩:=h.b
  have hroom:=hok.g.room
  have hlk:=hok.g.lok
  have hl1:=hlk.base
  have hl2:=hlk.last
  have hl3:=hlk.blocks
  have hlast:B.F.S.l.last=B.F.S.l.base+(B.F.S.l.l.length:Int):=rfl
  have hrm:B.F.S.l.room≤6000∧B.F.S.l.room≤1073741824 - B.F.S.l.last:=by unfold Lg.room at hroom ⊢;omega
  have hrec:=ck_recs hok hst
  have hlen:=ckRecs_len B.F
  have HIN:=Aside0.mk (wr_in (m:=ckM B.F m) hok.g hrec (by rw[hlen];omega))
  have HH:=Aside0.mk h
  have HB:=Aside0.mk hb
  have HS:=Aside0.mk hs
  have HO:=Aside0.mk (OutAll.sub hO fun k hk=>(h.r k (hb.r k hk).1).1:OutAll Rb a)
  have HMO:=Aside0.mk (show MOk (ckM B.F m) from⟨hm.epoch,hm.base,hm.reset,.inr ⟨by show m.base+1≤B.F.S.l.last+1;omega,by show B.F.S.l.last+1≤_;omega⟩,hm.pages,hm.blocks,hm.frames⟩)
  have HREC:=Aside0.mk (fun r hr=>(hrec r hr).1 : ∀r∈ckRecs B.F,recOk r=true)
  have HRM:=Aside0.mk (show ((ckRecs B.F).length:Int)≤B.F.S.l.room by rw[hlen];omega)
  have HLA:=Aside0.mk (show 0≤B.F.S.l.last∧B.F.S.l.last≤1073741823 by omega)
  have HNN:=Aside0.mk (show 0<N by have:=hok.g.pg.len;have:=hok.g.pg.pages;omega)
  have HMM:=Aside0.mk hmm
  obtain⟨nt,hnt⟩ : ∃n,B.F.ts.length=n:=⟨_,rfl⟩
  obtain⟨nd,hnd⟩ : ∃n,B.F.S.t.length=n:=⟨_,rfl⟩
  have HNT:=Aside0.mk (And.intro hnt hnd)
  rw[hnt,hnd] at hfree
  have HFR:=Aside0.mk (show ((2+nt+nd:Nat):Int)≤B.F.free∧B.F.free≤1073741824∧0≤B.F.kept∧B.F.kept≤1073741824 by omega)
  have hn4:nt≤6000∧nd≤6000:=by omega
  obtain⟨k0,k1,k2,k3,k4,k5,k6,k7,k8⟩:=h.cells
  obtain⟨b0,_⟩:=hb.cells
  have hcl:=heap_lt h.box
  have hbl:=heap_lt hb.box
  have HBX:=Aside0.mk h.box
  have HCR:=Aside0.mk (show ¬Rb cp from fun hr=>(h.r cp (hb.r cp hr).1).2 rfl)
  have HP:=Aside0.mk (parts_calls Rb sp lp pp dp qp mp blocks frames B.F w hb.f)
  obtain⟨ep,ba,re,ck,pg,bl,fr⟩:=m
  simp only at k2 k3 k4 k5 k6 k7 k8
  clear h hb hs hO hok hst hfree hm hba hmm hroom hlk hl1 hl2 hl3 hlast hrm hrec hlen hnt hnd
  go_enter Tryz.func43,Tryz.ntmps43
  go_wp2_with fail
  refine HP.out.mono ?_
  rintro e w1 ⟨rfl,hb1⟩
  have HB1:=Aside0.mk hb1
  have HF1:=Aside0.mk (HB.out.f.below hb1)
  clear hb1
  have HAL:=Aside0.mk (show Calls Tryz.prog 79 #[.pointer (some ⟨sp,8,none⟩)] w1 fun e w' => ∃A c,e = .returned (.slice A nt c)∧TR w' (.slice A nt c) B.F.ts∧Below w1.heap.size w1 w' from by
    obtain⟨tv,q1,q2,_⟩:=spMM HF1.out
    refine (tall_calls sp 8 tv B.F.ts w1 q2 q1).mono ?_
    rintro e w' ⟨v,rfl,hv,hb⟩
    obtain⟨A,c,rfl,_⟩:=ow_slice hv.1
    rw[HNT.out.1] at hv ⊢
    exact⟨A,c,rfl,hv,hb⟩)
  go_wp2_with fail
  refine HAL.out.mono ?_
  rintro e w2 ⟨At,ct,rfl,ht,hb2⟩
  have HB2:=Aside0.mk (below_step HB1.out hb2)
  have HT2:=Aside0.mk ht
  clear ht hb2 HAL
  have HDI:=Aside0.mk (show Calls Tryz.prog 96 #[.pointer (some ⟨pp,0,none⟩)] w2 fun e w' => ∃A c,e = .returned (.slice A nd c)∧P2 w' 288 (.slice A nd c) B.F.S.t∧Below w2.heap.size w2 w' from by
    refine (dirty_pool (HB.out.f.below HB2.out).sys).mono ?_
    rintro e w' ⟨v,rfl,hv,hb⟩
    obtain⟨A,c,rfl,_⟩:=ow_slice hv.1
    rw[HNT.out.2] at hv ⊢
    exact⟨A,c,rfl,hv,hb⟩)
  go_wp2_with fail
  refine HDI.out.mono ?_
  rintro e w3 ⟨Ad,cd,rfl,hd,hb3⟩
  have HB3:=Aside0.mk (below_step HB2.out hb3)
  have HD3:=Aside0.mk hd
  have HT3:=Aside0.mk (HT2.out.below hb3)
  clear hd hb3 HDI HT2
  have HL3:=Aside0.mk (LB.start HB.out.f HB3.out)
  have hw1:IntKind.i64.wrap (2+(nt:Int))=2+(nt:Int):=by rw[IntKind.wrap_i64];omega
  have hw2:IntKind.i64.wrap (2+(nt:Int)+(nd:Int))=2+(nt:Int)+(nd:Int):=by rw[IntKind.wrap_i64];omega
  have HASK:=Aside0.mk (show Calls Tryz.prog 65 #[.pointer (some ⟨qp,0,none⟩),.int .i64 (2+(nt:Int)+(nd:Int)),.int .i64 0] w3 fun e w'=>e = .returned .nilIface∧(∃R',LB Rb sp lp pp dp qp mp blocks frames { B.F with free:=B.F.free - ((2+nt+nd:Nat):Int),kept:=B.F.kept } w w3 R' w')∧TR w' (.slice At nt ct) B.F.ts∧P2 w' 288 (.slice Ad nd cd) B.F.S.t from by
    have hl:=HL3.out
    have hf:=HFR.out
    refine (ask_space _ qp B.F.free B.F.kept (2+(nt:Int)+(nd:Int)) 0 w3 hl.f.room hl.f.low.2.1 (by omega) (by omega) (by omega) (by omega) (by omega) (by omega)).mono ?_
    rintro e w' ⟨rfl,hsp,hfm⟩
    have e1:B.F.free - (2+(nt:Int)+(nd:Int)+0)=B.F.free - ((2+nt+nd:Nat):Int):=by push_cast;omega
    have e2:B.F.kept+0=B.F.kept:=by omega
    rw[e1,e2] at hsp
    exact⟨rfl,⟨_,hl.step (FwM.spc hl.f hsp hfm)⟩,HT3.out.frm hfm (by decide),HD3.out.frm hfm (by decide)⟩)
  go_wp2_with fail
  refine HASK.out.mono ?_
  rintro e w4 ⟨rfl,⟨R4,hl4⟩,ht4,hd4⟩
  have HL4:=Aside0.mk hl4
  have HT4:=Aside0.mk ht4
  have HD4:=Aside0.mk hd4
  have HBX4:=Aside0.mk (hl4.k.at HBX.out HCR.out)
  clear hl4 ht4 hd4 HASK k0 k1 k2 k3 k4 k5 k6 k7 k8 b0 hbl
  have HLC:=Aside0.mk (LB.cut HL4.out)
  obtain⟨mm',hmm'⟩ : ∃x,ckM B.F ⟨ep,ba,re,ck,pg,bl,fr⟩=x:=⟨_,rfl⟩
  have HM':=Aside0.mk hmm'
  have HF':=Aside0.mk (show ckF B.F ⟨ep,ba,re,ck,pg,bl,fr⟩={ B.F with S:=wrS B.F.S (ckRecs B.F) mm',free:=B.F.free - ((2+nt+nd:Nat):Int) } from by unfold ckF;rw[hmm',HNT.out.1,HNT.out.2])
  have HMOST:=Aside0.mk (fun (V:World) (hb:Below w4.heap.size w4 V)=>(show Calls Tryz.prog 98 #[.pointer (some ⟨sp,8,none⟩)] V fun e w'=>e = .returned (.int .i64 B.F.most)∧V=w' from by
    obtain⟨tv,_,_,q3⟩:=spMM (HL4.out.below hb).f
    exact tmost_calls sp 8 B.F.most V q3))
  have HWR:=Aside0.mk (fun (V:World) (hb:Below w4.heap.size w4 V)=>(show Calls Tryz.prog 97 #[.pointer (some ⟨dp,0,none⟩),.pointer (some ⟨lp,0,none⟩),.agg #[.int .i64 ep,.int .i64 ba,.int .i64 re,.int .i64 ck,.int .i64 pg,.int .i64 bl,.int .i64 fr],.int .i64 B.F.most,.slice At nt ct,.slice Ad nd cd] V fun e w'=>e = .returned (.tuple #[.agg #[.int .i64 mm'.epoch,.int .i64 mm'.base,.int .i64 mm'.reset,.int .i64 mm'.ckpt,.int .i64 mm'.pages,.int .i64 mm'.blocks,.int .i64 mm'.frames],.nilIface])∧LB Rb sp lp pp dp qp mp blocks frames { B.F with S:=wrS B.F.S (ckRecs B.F) mm',free:=B.F.free - ((2+nt+nd:Nat):Int) } w w3 (Gr (Cut R4 w4.heap.size) V w') w'∧∀j,w4.heap.size≤j→j<V.heap.size→w'.heap[j]? = V.heap[j]? from by
    have hl:=HLC.out.below hb
    obtain⟨hs1,ho1⟩:=hl.sents HS.out HO.out
    have hin:=HIN.out
    have hmo:=HMO.out
    rw[←hmm']
    have:=write_calls a (Cut R4 w4.heap.size) sp lp pp dp qp mp blocks frames { B.F with free:=B.F.free - ((2+nt+nd:Nat):Int),kept:=B.F.kept } ⟨ep,ba,re,ck,pg,bl,fr⟩ B.F.most (.slice At nt ct) (.slice Ad nd cd) B.F.ts B.F.S.t N mm V hl.f (HT4.out.below hb) (HD4.out.below hb) (by rw[HNT.out.1];omega) (by rw[HNT.out.2];omega) hin HREC.out HRM.out HLA.out hmo HNN.out (by have:=HMM.out;omega) hs1 ho1
    refine this.mono ?_
    rintro e w' ⟨rfl,hp⟩
    exact⟨rfl,hl.step hp,fun j h1 h2=>hp.2.block j h2 fun hc=>by have:=hc.2;omega⟩))
  obtain⟨y0,y1,y2,y3,y4,y5,y6,y7,y8⟩:=ck_cells HBX4.out
  simp only at y2 y3 y4 y5 y6 y7 y8
  have hcl4:=heap_lt HBX4.out
  have HZ4:=Aside0.mk (And.intro HL4.out.sz HB3.out.size)
  have KD:=Aside0.mk (show w4.drew.cell? ⟨cp,1,none⟩=some (.pointer (some ⟨dp,0,none⟩))∧w4.drew.cell? ⟨cp,2,none⟩=some (.int .i64 ep)∧w4.drew.cell? ⟨cp,3,none⟩=some (.int .i64 ba)∧w4.drew.cell? ⟨cp,4,none⟩=some (.int .i64 re)∧w4.drew.cell? ⟨cp,5,none⟩=some (.int .i64 ck)∧w4.drew.cell? ⟨cp,6,none⟩=some (.int .i64 pg)∧w4.drew.cell? ⟨cp,7,none⟩=some (.int .i64 bl)∧w4.drew.cell? ⟨cp,8,none⟩=some (.int .i64 fr) from⟨y1,y2,y3,y4,y5,y6,y7,y8⟩)
  have KA:=Aside0.mk (show (w4.alloc (.cells #[.int .i64 0,.int .i64 0,.int .i64 0,.int .i64 0,.int .i64 0,.int .i64 0,.int .i64 0] 84)).drew.cell? ⟨cp,1,none⟩=some (.pointer (some ⟨dp,0,none⟩))∧(w4.alloc (.cells #[.int .i64 0,.int .i64 0,.int .i64 0,.int .i64 0,.int .i64 0,.int .i64 0,.int .i64 0] 84)).drew.cell? ⟨cp,2,none⟩=some (.int .i64 ep)∧(w4.alloc (.cells #[.int .i64 0,.int .i64 0,.int .i64 0,.int .i64 0,.int .i64 0,.int .i64 0,.int .i64 0] 84)).drew.cell? ⟨cp,3,none⟩=some (.int .i64 ba)∧(w4.alloc (.cells #[.int .i64 0,.int .i64 0,.int .i64 0,.int .i64 0,.int .i64 0,.int .i64 0,.int .i64 0] 84)).drew.cell? ⟨cp,4,none⟩=some (.int .i64 re)∧(w4.alloc (.cells #[.int .i64 0,.int .i64 0,.int .i64 0,.int .i64 0,.int .i64 0,.int .i64 0,.int .i64 0] 84)).drew.cell? ⟨cp,5,none⟩=some (.int .i64 ck)∧(w4.alloc (.cells #[.int .i64 0,.int .i64 0,.int .i64 0,.int .i64 0,.int .i64 0,.int .i64 0,.int .i64 0] 84)).drew.cell? ⟨cp,6,none⟩=some (.int .i64 pg)∧(w4.alloc (.cells #[.int .i64 0,.int .i64 0,.int .i64 0,.int .i64 0,.int .i64 0,.int .i64 0,.int .i64 0] 84)).drew.cell? ⟨cp,7,none⟩=some (.int .i64 bl)∧(w4.alloc (.cells #[.int .i64 0,.int .i64 0,.int .i64 0,.int .i64 0,.int .i64 0,.int .i64 0,.int .i64 0] 84)).drew.cell? ⟨cp,8,none⟩=some (.int .i64 fr) from (have q : ∀j,(w4.alloc (.cells #[.int .i64 0,.int .i64 0,.int .i64 0,.int .i64 0,.int .i64 0,.int .i64 0,.int .i64 0] 84)).drew.cell? ⟨cp,j,none⟩=w4.cell? ⟨cp,j,none⟩:=fun j=>cell_same (Below.heap_alloc w4 _ _ hcl4);⟨(q 1).trans y1,(q 2).trans y2,(q 3).trans y3,(q 4).trans y4,(q 5).trans y5,(q 6).trans y6,(q 7).trans y7,(q 8).trans y8⟩))
  clear hmm' hcl
  go_upto_region 6 with fail
  go_cut [10,11] (fun v10 v11 wx=>v11 = .nilIface∧∃b10 R5,v10 = .pointer (some ⟨b10,0,none⟩)∧Aside0 (wx.heap[b10]? = some (.cells #[.int .i64 mm'.epoch,.int .i64 mm'.base,.int .i64 mm'.reset,.int .i64 mm'.ckpt,.int .i64 mm'.pages,.int .i64 mm'.blocks,.int .i64 mm'.frames] 84 (0,0)))∧Aside0 (LB Rb sp lp pp dp qp mp blocks frames { B.F with S:=wrS B.F.S (ckRecs B.F) mm',free:=B.F.free - ((2+nt+nd:Nat):Int) } w w3 R5 wx))
  case first=>
    go_region_held3 (fun w'=>w'.cell? ⟨cp,1,none⟩=some (.pointer (some ⟨dp,0,none⟩))∧w'.cell? ⟨cp,2,none⟩=some (.int .i64 ep)∧w'.cell? ⟨cp,3,none⟩=some (.int .i64 ba)∧w'.cell? ⟨cp,4,none⟩=some (.int .i64 re)∧w'.cell? ⟨cp,5,none⟩=some (.int .i64 ck)∧w'.cell? ⟨cp,6,none⟩=some (.int .i64 pg)∧w'.cell? ⟨cp,7,none⟩=some (.int .i64 bl)∧w'.cell? ⟨cp,8,none⟩=some (.int .i64 fr))
      (first | with_reducible exact KD.out | with_reducible exact KA.out | with_reducible exact K5.out | with_reducible exact KC.out | with_reducible exact KB.out | with_reducible exact KE.out)
      (first
        | (go_at_call 98;refine (HMOST.out _ (by repeat (first | exact Below.refl _ _ | apply below_drew1 | apply below_alloc))).mono ?_;rintro e wq ⟨rfl,rfl⟩)
        | (go_at_call 97;refine (HWR.out (World.drew (World.alloc w4 (.cells #[.int .i64 0,.int .i64 0,.int .i64 0,.int .i64 0,.int .i64 0,.int .i64 0,.int .i64 0] 84))) (by repeat (first | exact Below.refl _ _ | apply below_drew1 | apply below_alloc))).mono ?_;rintro e w5 ⟨rfl,hl5,hk5⟩;have hbk:w5.heap[w4.heap.size]? = some (.cells #[.int .i64 0,.int .i64 0,.int .i64 0,.int .i64 0,.int .i64 0,.int .i64 0,.int .i64 0] 84 (0,0)):=(hk5 w4.heap.size (Nat.le_refl _) (by show w4.heap.size<(World.alloc _ _).heap.size;rw[ValM.alloc_len];exact Nat.lt_succ_self _)).trans (ValM.alloc_after rfl (below_drew1 (Below.refl _ _)));obtain⟨z0,z1,z2,z3,z4,z5,z6⟩:=mst_cells hbk;have hzl:=heap_lt hbk;have hfz : ∀j,w5.frozen? ⟨w4.heap.size,j,none⟩=false:=(fun j=>by simp[World.frozen?,hbk]);have HL5:=Aside0.mk hl5;have HBX5:=Aside0.mk (hl5.k.at HBX.out HCR.out);have K5:=Aside0.mk (k5_of HBX5.out);clear hl5;have KC:=Aside0.mk (show (((((((w5.setCell ⟨w4.heap.size,0,none⟩ (.int .i64 mm'.epoch)).setCell ⟨w4.heap.size,1,none⟩ (.int .i64 mm'.base)).setCell ⟨w4.heap.size,2,none⟩ (.int .i64 mm'.reset)).setCell ⟨w4.heap.size,3,none⟩ (.int .i64 mm'.ckpt)).setCell ⟨w4.heap.size,4,none⟩ (.int .i64 mm'.pages)).setCell ⟨w4.heap.size,5,none⟩ (.int .i64 mm'.blocks)).setCell ⟨w4.heap.size,6,none⟩ (.int .i64 mm'.frames)).cell? ⟨cp,1,none⟩=some (.pointer (some ⟨dp,0,none⟩))∧(((((((w5.setCell ⟨w4.heap.size,0,none⟩ (.int .i64 mm'.epoch)).setCell ⟨w4.heap.size,1,none⟩ (.int .i64 mm'.base)).setCell ⟨w4.heap.size,2,none⟩ (.int .i64 mm'.reset)).setCell ⟨w4.heap.size,3,none⟩ (.int .i64 mm'.ckpt)).setCell ⟨w4.heap.size,4,none⟩ (.int .i64 mm'.pages)).setCell ⟨w4.heap.size,5,none⟩ (.int .i64 mm'.blocks)).setCell ⟨w4.heap.size,6,none⟩ (.int .i64 mm'.frames)).cell? ⟨cp,2,none⟩=some (.int .i64 ep)∧(((((((w5.setCell ⟨w4.heap.size,0,none⟩ (.int .i64 mm'.epoch)).setCell ⟨w4.heap.size,1,none⟩ (.int .i64 mm'.base)).setCell ⟨w4.heap.size,2,none⟩ (.int .i64 mm'.reset)).setCell ⟨w4.heap.size,3,none⟩ (.int .i64 mm'.ckpt)).setCell ⟨w4.heap.size,4,none⟩ (.int .i64 mm'.pages)).setCell ⟨w4.heap.size,5,none⟩ (.int .i64 mm'.blocks)).setCell ⟨w4.heap.size,6,none⟩ (.int .i64 mm'.frames)).cell? ⟨cp,3,none⟩=some (.int .i64 ba)∧(((((((w5.setCell ⟨w4.heap.size,0,none⟩ (.int .i64 mm'.epoch)).setCell ⟨w4.heap.size,1,none⟩ (.int .i64 mm'.base)).setCell ⟨w4.heap.size,2,none⟩ (.int .i64 mm'.reset)).setCell ⟨w4.heap.size,3,none⟩ (.int .i64 mm'.ckpt)).setCell ⟨w4.heap.size,4,none⟩ (.int .i64 mm'.pages)).setCell ⟨w4.heap.size,5,none⟩ (.int .i64 mm'.blocks)).setCell ⟨w4.heap.size,6,none⟩ (.int .i64 mm'.frames)).cell? ⟨cp,4,none⟩=some (.int .i64 re)∧(((((((w5.setCell ⟨w4.heap.size,0,none⟩ (.int .i64 mm'.epoch)).setCell ⟨w4.heap.size,1,none⟩ (.int .i64 mm'.base)).setCell ⟨w4.heap.size,2,none⟩ (.int .i64 mm'.reset)).setCell ⟨w4.heap.size,3,none⟩ (.int .i64 mm'.ckpt)).setCell ⟨w4.heap.size,4,none⟩ (.int .i64 mm'.pages)).setCell ⟨w4.heap.size,5,none⟩ (.int .i64 mm'.blocks)).setCell ⟨w4.heap.size,6,none⟩ (.int .i64 mm'.frames)).cell? ⟨cp,5,none⟩=some (.int .i64 ck)∧(((((((w5.setCell ⟨w4.heap.size,0,none⟩ (.int .i64 mm'.epoch)).setCell ⟨w4.heap.size,1,none⟩ (.int .i64 mm'.base)).setCell ⟨w4.heap.size,2,none⟩ (.int .i64 mm'.reset)).setCell ⟨w4.heap.size,3,none⟩ (.int .i64 mm'.ckpt)).setCell ⟨w4.heap.size,4,none⟩ (.int .i64 mm'.pages)).setCell ⟨w4.heap.size,5,none⟩ (.int .i64 mm'.blocks)).setCell ⟨w4.heap.size,6,none⟩ (.int .i64 mm'.frames)).cell? ⟨cp,6,none⟩=some (.int .i64 pg)∧(((((((w5.setCell ⟨w4.heap.size,0,none⟩ (.int .i64 mm'.epoch)).setCell ⟨w4.heap.size,1,none⟩ (.int .i64 mm'.base)).setCell ⟨w4.heap.size,2,none⟩ (.int .i64 mm'.reset)).setCell ⟨w4.heap.size,3,none⟩ (.int .i64 mm'.ckpt)).setCell ⟨w4.heap.size,4,none⟩ (.int .i64 mm'.pages)).setCell ⟨w4.heap.size,5,none⟩ (.int .i64 mm'.blocks)).setCell ⟨w4.heap.size,6,none⟩ (.int .i64 mm'.frames)).cell? ⟨cp,7,none⟩=some (.int .i64 bl)∧(((((((w5.setCell ⟨w4.heap.size,0,none⟩ (.int .i64 mm'.epoch)).setCell ⟨w4.heap.size,1,none⟩ (.int .i64 mm'.base)).setCell ⟨w4.heap.size,2,none⟩ (.int .i64 mm'.reset)).setCell ⟨w4.heap.size,3,none⟩ (.int .i64 mm'.ckpt)).setCell ⟨w4.heap.size,4,none⟩ (.int .i64 mm'.pages)).setCell ⟨w4.heap.size,5,none⟩ (.int .i64 mm'.blocks)).setCell ⟨w4.heap.size,6,none⟩ (.int .i64 mm'.frames)).cell? ⟨cp,8,none⟩=some (.int .i64 fr) from (have q : ∀j,(((((((w5.setCell ⟨w4.heap.size,0,none⟩ (.int .i64 mm'.epoch)).setCell ⟨w4.heap.size,1,none⟩ (.int .i64 mm'.base)).setCell ⟨w4.heap.size,2,none⟩ (.int .i64 mm'.reset)).setCell ⟨w4.heap.size,3,none⟩ (.int .i64 mm'.ckpt)).setCell ⟨w4.heap.size,4,none⟩ (.int .i64 mm'.pages)).setCell ⟨w4.heap.size,5,none⟩ (.int .i64 mm'.blocks)).setCell ⟨w4.heap.size,6,none⟩ (.int .i64 mm'.frames)).cell? ⟨cp,j,none⟩=w5.cell? ⟨cp,j,none⟩:=(fun j=>cell_same ((mstPut_ok (m:=mm') hbk).2.1 cp (Nat.ne_of_lt hcl4)));⟨(q 1).trans K5.out.1,(q 2).trans K5.out.2.1,(q 3).trans K5.out.2.2.1,(q 4).trans K5.out.2.2.2.1,(q 5).trans K5.out.2.2.2.2.1,(q 6).trans K5.out.2.2.2.2.2.1,(q 7).trans K5.out.2.2.2.2.2.2.1,(q 8).trans K5.out.2.2.2.2.2.2.2⟩));have HBK:=Aside0.mk hbk;clear hbk hk5)
        | (go_at_call 97;with_reducible refine (HWR.out w4.drew (by repeat (first | exact Below.refl _ _ | apply below_drew1 | apply below_alloc))).mono ?_;rintro e w5 ⟨rfl,hl5,hk5⟩;have HL5:=Aside0.mk hl5;have HBX5:=Aside0.mk (hl5.k.at HBX.out HCR.out);have K5:=Aside0.mk (k5_of HBX5.out);clear hl5;clear hk5;have KB:=Aside0.mk (show (w5.alloc (.cells #[.int .i64 0,.int .i64 0,.int .i64 0,.int .i64 0,.int .i64 0,.int .i64 0,.int .i64 0] 84)).cell? ⟨cp,1,none⟩=some (.pointer (some ⟨dp,0,none⟩))∧(w5.alloc (.cells #[.int .i64 0,.int .i64 0,.int .i64 0,.int .i64 0,.int .i64 0,.int .i64 0,.int .i64 0] 84)).cell? ⟨cp,2,none⟩=some (.int .i64 ep)∧(w5.alloc (.cells #[.int .i64 0,.int .i64 0,.int .i64 0,.int .i64 0,.int .i64 0,.int .i64 0,.int .i64 0] 84)).cell? ⟨cp,3,none⟩=some (.int .i64 ba)∧(w5.alloc (.cells #[.int .i64 0,.int .i64 0,.int .i64 0,.int .i64 0,.int .i64 0,.int .i64 0,.int .i64 0] 84)).cell? ⟨cp,4,none⟩=some (.int .i64 re)∧(w5.alloc (.cells #[.int .i64 0,.int .i64 0,.int .i64 0,.int .i64 0,.int .i64 0,.int .i64 0,.int .i64 0] 84)).cell? ⟨cp,5,none⟩=some (.int .i64 ck)∧(w5.alloc (.cells #[.int .i64 0,.int .i64 0,.int .i64 0,.int .i64 0,.int .i64 0,.int .i64 0,.int .i64 0] 84)).cell? ⟨cp,6,none⟩=some (.int .i64 pg)∧(w5.alloc (.cells #[.int .i64 0,.int .i64 0,.int .i64 0,.int .i64 0,.int .i64 0,.int .i64 0,.int .i64 0] 84)).cell? ⟨cp,7,none⟩=some (.int .i64 bl)∧(w5.alloc (.cells #[.int .i64 0,.int .i64 0,.int .i64 0,.int .i64 0,.int .i64 0,.int .i64 0,.int .i64 0] 84)).cell? ⟨cp,8,none⟩=some (.int .i64 fr) from (have q : ∀j,(w5.alloc (.cells #[.int .i64 0,.int .i64 0,.int .i64 0,.int .i64 0,.int .i64 0,.int .i64 0,.int .i64 0] 84)).cell? ⟨cp,j,none⟩=w5.cell? ⟨cp,j,none⟩:=(fun j=>cell_same (Below.heap_alloc w5 _ _ (heap_lt HBX5.out)));⟨(q 1).trans K5.out.1,(q 2).trans K5.out.2.1,(q 3).trans K5.out.2.2.1,(q 4).trans K5.out.2.2.2.1,(q 5).trans K5.out.2.2.2.2.1,(q 6).trans K5.out.2.2.2.2.2.1,(q 7).trans K5.out.2.2.2.2.2.2.1,(q 8).trans K5.out.2.2.2.2.2.2.2⟩));have KE:=Aside0.mk (show (w5.alloc (.cells #[.int .i64 mm'.epoch,.int .i64 mm'.base,.int .i64 mm'.reset,.int .i64 mm'.ckpt,.int .i64 mm'.pages,.int .i64 mm'.blocks,.int .i64 mm'.frames] 84)).cell? ⟨cp,1,none⟩=some (.pointer (some ⟨dp,0,none⟩))∧(w5.alloc (.cells #[.int .i64 mm'.epoch,.int .i64 mm'.base,.int .i64 mm'.reset,.int .i64 mm'.ckpt,.int .i64 mm'.pages,.int .i64 mm'.blocks,.int .i64 mm'.frames] 84)).cell? ⟨cp,2,none⟩=some (.int .i64 ep)∧(w5.alloc (.cells #[.int .i64 mm'.epoch,.int .i64 mm'.base,.int .i64 mm'.reset,.int .i64 mm'.ckpt,.int .i64 mm'.pages,.int .i64 mm'.blocks,.int .i64 mm'.frames] 84)).cell? ⟨cp,3,none⟩=some (.int .i64 ba)∧(w5.alloc (.cells #[.int .i64 mm'.epoch,.int .i64 mm'.base,.int .i64 mm'.reset,.int .i64 mm'.ckpt,.int .i64 mm'.pages,.int .i64 mm'.blocks,.int .i64 mm'.frames] 84)).cell? ⟨cp,4,none⟩=some (.int .i64 re)∧(w5.alloc (.cells #[.int .i64 mm'.epoch,.int .i64 mm'.base,.int .i64 mm'.reset,.int .i64 mm'.ckpt,.int .i64 mm'.pages,.int .i64 mm'.blocks,.int .i64 mm'.frames] 84)).cell? ⟨cp,5,none⟩=some (.int .i64 ck)∧(w5.alloc (.cells #[.int .i64 mm'.epoch,.int .i64 mm'.base,.int .i64 mm'.reset,.int .i64 mm'.ckpt,.int .i64 mm'.pages,.int .i64 mm'.blocks,.int .i64 mm'.frames] 84)).cell? ⟨cp,6,none⟩=some (.int .i64 pg)∧(w5.alloc (.cells #[.int .i64 mm'.epoch,.int .i64 mm'.base,.int .i64 mm'.reset,.int .i64 mm'.ckpt,.int .i64 mm'.pages,.int .i64 mm'.blocks,.int .i64 mm'.frames] 84)).cell? ⟨cp,7,none⟩=some (.int .i64 bl)∧(w5.alloc (.cells #[.int .i64 mm'.epoch,.int .i64 mm'.base,.int .i64 mm'.reset,.int .i64 mm'.ckpt,.int .i64 mm'.pages,.int .i64 mm'.blocks,.int .i64 mm'.frames] 84)).cell? ⟨cp,8,none⟩=some (.int .i64 fr) from (have q : ∀j,(w5.alloc (.cells #[.int .i64 mm'.epoch,.int .i64 mm'.base,.int .i64 mm'.reset,.int .i64 mm'.ckpt,.int .i64 mm'.pages,.int .i64 mm'.blocks,.int .i64 mm'.frames] 84)).cell? ⟨cp,j,none⟩=w5.cell? ⟨cp,j,none⟩:=(fun j=>cell_same (Below.heap_alloc w5 _ _ (heap_lt HBX5.out)));⟨(q 1).trans K5.out.1,(q 2).trans K5.out.2.1,(q 3).trans K5.out.2.2.1,(q 4).trans K5.out.2.2.2.1,(q 5).trans K5.out.2.2.2.2.1,(q 6).trans K5.out.2.2.2.2.2.1,(q 7).trans K5.out.2.2.2.2.2.2.1,(q 8).trans K5.out.2.2.2.2.2.2.2⟩))))
    all_goals
      go_wp2_with fail
      go_meet
      first
        | (have hm:=mstPut_ok (m:=mm') HBK.out
           have hz2:w.heap.size≤w4.heap.size:=Nat.le_trans HZ4.out.2 HZ4.out.1
           have hnr : ¬Gr (Cut R4 w4.heap.size) (World.drew (World.alloc w4 (.cells #[.int .i64 0,.int .i64 0,.int .i64 0,.int .i64 0,.int .i64 0,.int .i64 0,.int .i64 0] 84))) w5 w4.heap.size:=(by
             rintro (hc | ⟨hc,_⟩)
             · exact absurd hc.2 (Nat.lt_irrefl _)
             · have hc2:(World.alloc w4 (.cells #[.int .i64 0,.int .i64 0,.int .i64 0,.int .i64 0,.int .i64 0,.int .i64 0,.int .i64 0] 84)).heap.size≤w4.heap.size:=hc
               rw[ValM.alloc_len] at hc2
               omega)
           have hlt:=LB.turn HL5.out (b:=w4.heap.size) HZ4.out.1 hz2 hnr HBK.out hm.2.1 (hm.2.2.2 _ hz2) hm.2.2.1
           have HQ1:=Aside0.mk hm.1
           have HQ2:=Aside0.mk hlt
           clear hm hlt hnr
           unfold mstPut at HQ1 HQ2
           with_reducible exact⟨rfl,w4.heap.size,_,rfl,HQ1,HQ2⟩)
        | (have HQ1:=Aside0.mk (heap_alloc_new w5 (.cells #[.int .i64 mm'.epoch,.int .i64 mm'.base,.int .i64 mm'.reset,.int .i64 mm'.ckpt,.int .i64 mm'.pages,.int .i64 mm'.blocks,.int .i64 mm'.frames] 84))
           have HQ2:=Aside0.mk (HL5.out.below (below_alloc (Below.refl _ w5) (.cells #[.int .i64 mm'.epoch,.int .i64 mm'.base,.int .i64 mm'.reset,.int .i64 mm'.ckpt,.int .i64 mm'.pages,.int .i64 mm'.blocks,.int .i64 mm'.frames] 84)))
           with_reducible exact⟨rfl,w5.heap.size,_,rfl,HQ1,HQ2⟩)
  case rest=>
    obtain⟨rfl,b10,R5,rfl,H10,HL5⟩:=hcut
    generalize wc=Z at H10 HL5 ⊢
    clear KD KA y0 y1 y2 y3 y4 y5 y6 y7 y8 hcl4 HWR HMOST HLC
    have HBXZ:=Aside0.mk (HL5.out.k.at HBX.out HCR.out)
    obtain⟨x0,x1,x2,x3,x4,x5,x6⟩:=mst_cells H10.out
    obtain⟨y0,y1,y2,y3,y4,y5,y6,y7,y8⟩:=ck_cells HBXZ.out
    simp only at y2 y3 y4 y5 y6 y7 y8
    have hcz:=heap_lt HBXZ.out
    have hxl:=heap_lt H10.out
    have hfz : ∀j,Z.frozen? ⟨cp,j,none⟩=false:=fun j=>by simp[World.frozen?,HBXZ.out]
    have hp:=ckPut_ok (m':=mm') HBXZ.out
    have hkp:=CkIn.bk HH.out (HB.out.fw HL5.out.post)
    have hck:=CkM.turn hkp.1 hp.1 hp.2.1
    have hkk:=kp_turn hkp.2 HH.out.low HBX.out hp.2.2 hp.2.1
    have HQ:=Aside0.mk (show CkPost M cp bp bm sp lp pp dp qp mp blocks frames { B with F:=ckF B.F ⟨ep,ba,re,ck,pg,bl,fr⟩ } (ckM B.F ⟨ep,ba,re,ck,pg,bl,fr⟩) w (ckPut Z cp mm') from by
      rw[HF'.out,HM'.out]
      exact⟨CkM.mono hck fun j hj=>Gr.grow (by rw[hp.2.2.2.2.2];exact Nat.le_refl _) hj,hkk⟩)
    clear hp hkp hck hkk
    unfold ckPut at HQ
    go_wp2_with fail
    go_ret
    with_reducible exact⟨rfl,HQ.out⟩
end Go.Proofs.YtaplpeoikebedaaGreatDoor.CkptX
namespace Go.Proofs.YtaplpeoikebedaaGreatDoor.First19
open Go.RowKit Go.Maps YtaplpeoikebedaaGreatDoorW.PrintWords YtaplpeoikebedaaGreatDoorW.PrintLast YtaplpeoikebedaaGreatDoorW.PrintMore
open See Mem Page PageL Disk DiskN RecD Dirty Pool2 Pool3 Wal Fresh Num SysD SysM StoreD StoreF StoreI StoreJ StoreK SpaceT FwdM FwdP FwdB First17 BackM BackN MasC CkptM CkptN CkptB CkptC CkptX
attribute [local go_sem] max2_imax min2_imin max_two min_two
theorem ckbegin (a:Nat→Addr)(n cp bp bm sp lp pp dp qp mp:Nat)(blocks frames:Int)(B:BSt)(m:Mst)(N mm:Nat)(ch:Int→List Int)(kp:Int→Int)(w:World)(h:CkM (fun k=>n≤k) w cp bp bm sp lp pp dp qp mp blocks frames B m)(hn:n≤w.heap.size)(hok:FOk N mm ch kp B.F)(hs:SentsAll w a)(hO:OutAll (fun k=>n≤k) a)(h1:0<B.F.sess)(h2:B.F.sess≤1000)(hof:B.F.of 0=0)(hmo:B.F.most<60000)(hfr:3≤B.F.free) :
    Calls Tryz.prog 20 #[.pointer (some ⟨sp,0,none⟩),.int .i64 0] w fun e w'=>e = .returned .nilIface∧CkM (fun k=>n≤k) w' cp bp bm sp lp pp dp qp mp blocks frames { B with F:=beginF B.F 0 } m∧Below n w w':=by
  obtain⟨R,h⟩:=h
  obtain⟨Rb,sl,hb⟩:=h.b
  refine (begin_calls a Rb sp lp pp dp qp mp blocks frames B.F 0 _ _ _ _ w hb.f hok hs (OutAll.sub hO fun k hk=>(h.r k (hb.r k hk).1).1) (by decide) h1 h2 hof hmo).mono ?_
  rintro e w' hpost
  rcases hpost with ⟨_,rfl,hpost⟩ | ⟨hlt,_,_⟩
  · exact⟨rfl,ck_up (h.bk (hb.fw hpost)) hn⟩
  · exact absurd hlt (by omega)
theorem ck_box {M:Nat→Prop}{cp bp bm sp lp pp dp qp mp:Nat}{blocks frames:Int}{B:BSt}{m:Mst}{w:World}(h:CkM M w cp bp bm sp lp pp dp qp mp blocks frames B m):(w.cell? ⟨cp,0,none⟩=some (.pointer (some ⟨bp,0,none⟩))∧cp<w.heap.size)∧w.cell? ⟨bp,0,none⟩=some (.pointer (some ⟨sp,0,none⟩))∧bp<w.heap.size:=by
  obtain⟨R,h⟩:=h
  obtain⟨Rb,sl,hb⟩:=h.b
  exact⟨⟨h.cells.1,heap_lt h.box⟩,hb.cells.1,heap_lt hb.box⟩
theorem mst_field (e b r c p l f:Int)(W:World):(Instr.field 84 (.agg #[.int .i64 e,.int .i64 b,.int .i64 r,.int .i64 c,.int .i64 p,.int .i64 l,.int .i64 f]) 3).run Tryz.prog W = .ok (.int .i64 c) W:=by kernel_rfl
theorem first19_calls (a:Nat→Addr)(w:World)(hs:SentsAll w a) :
    Calls Tryz.prog 39 #[] w fun e w'=>e = .returned (.bool true)∧Below w.heap.size w w':=by
  have HS:=Aside0.mk hs
  have HO:=Aside0.mk (out_all HS.out)
  have HOK:=Aside0.mk (new_ok (P:=2) (blocks:=6) (frames:=2) (sess:=2) 0 (by omega) (by omega) (by omega))
  have HOK4:=Aside0.mk (begin_ok (n:=0) HOK.out rfl (by decide) (by decide) rfl (by decide) (by decide))
  clear hs
  go_enter Tryz.func39,Tryz.ntmps39
  go_wp2_with fail
  refine (made19_calls 2 6 2 2 (by omega) (by omega) (by omega) w).mono ?_
  rintro e w1 ⟨cp,bp,bm,sp,lp,pp,dp,qp,mp,q,rfl,hck,hb⟩
  have HCK:=Aside0.mk hck
  have HB:=Aside0.mk hb
  obtain⟨⟨k0,hcl⟩,b0,hbl⟩:=ck_box hck
  clear hck hb
  go_wp2_with fail
  refine (ckbegin a w.heap.size cp bp bm sp lp pp dp qp mp 6 2 _ _ _ 0 _ _ w1 HCK.out HB.out.size HOK.out (HS.out.below HB.out) HO.out (by decide) (by decide) rfl (by decide) (by decide)).mono ?_
  rintro e w2 ⟨rfl,hck,hb⟩
  have HCK2:=Aside0.mk hck
  have HB2:=Aside0.mk (HB.out.trans hb)
  clear hck hb k0 hcl b0 hbl
  go_wp2_with fail
  refine (reset_busy a _ cp bp bm sp lp pp dp qp mp 6 2 _ _ w2 HCK2.out (by decide) (HS.out.below HB2.out)).mono ?_
  rintro e w3 ⟨rfl,hb⟩
  have HCK3:=Aside0.mk (HCK2.out.below hb)
  have HB3:=Aside0.mk (below_step HB2.out hb)
  clear hb
  go_wp2_with fail
  refine (is_calls a (errv a (some 15)) 116 (.inr ⟨15,by decide,rfl,by decide⟩) 116 _ (HS.out.below HB3.out)).mono ?_
  rintro e w4 ⟨rfl,hb⟩
  have HCK4:=Aside0.mk (HCK3.out.below hb)
  have HB4:=Aside0.mk (below_step HB3.out hb)
  clear hb
  rw[show ((116:Int) == 116)=true from by decide]
  go_wp2_with fail
  refine (ckpt_calls a _ cp bp bm sp lp pp dp qp mp 6 2 _ _ _ 0 _ _ w4 HCK4.out HOK4.out (by decide) (by decide) ⟨⟨by decide,by decide⟩,⟨by decide,by decide⟩,⟨by decide,by decide⟩,.inl rfl,⟨by decide,by decide⟩,⟨by decide,by decide⟩,⟨by decide,by decide⟩⟩ (by decide) (by decide) (HS.out.below HB4.out) HO.out).mono ?_
  rintro e w5 ⟨rfl,hp⟩
  obtain⟨hck,hb⟩:=ck_up hp HB4.out.size
  have HB5:=Aside0.mk (HB4.out.trans hb)
  have HMA:=Aside0.mk (show Calls Tryz.prog 41 #[.pointer (some ⟨cp,0,none⟩)] w5 fun e w'=>e = .returned (.agg #[.int .i64 1,.int .i64 0,.int .i64 1,.int .i64 2,.int .i64 2,.int .i64 6,.int .i64 2])∧Below w5.heap.size w5 w' from master_calls hck)
  clear hck hb hp
  go_wp2_with fail
  refine HMA.out.mono ?_
  rintro e w6 ⟨rfl,hb⟩
  have HB6:=Aside0.mk (below_step HB5.out hb)
  have hfd:=mst_field 1 0 1 2 2 6 2 w6
  clear hb
  go_wp2_with fail
  go_ret
  exact⟨rfl,HB6.out⟩
end Go.Proofs.YtaplpeoikebedaaGreatDoor.First19
