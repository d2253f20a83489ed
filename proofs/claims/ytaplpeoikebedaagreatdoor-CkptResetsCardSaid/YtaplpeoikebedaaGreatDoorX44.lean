/- Joined texts: CkptN, CkptB, First19, PagW, FwdK. No condition but what each says. -/
import Derived.Test.YtaplpeoikebedaaGreatDoorX37
import Derived.Test.YtaplpeoikebedaaGreatDoorX39
import Derived.Test.YtaplpeoikebedaaGreatDoorX43
import Derived.Test.YtaplpeoikebedaaGreatDoorX36
import Derived.Test.YtaplpeoikebedaaGreatDoorX42
import Derived.Test.YtaplpeoikebedaaGreatDoorX34
import Derived.Test.YtaplpeoikebedaaGreatDoorX35
import Derived.Test.YtaplpeoikebedaaGreatDoorX28
set_option maxHeartbeats 8000000
set_option maxRecDepth 100000
set_option linter.unusedVariables false
set_option linter.unusedSimpArgs false
namespace Go.Proofs.YtaplpeoikebedaaGreatDoor.CkptN
open Go.RowKit Go.Maps YtaplpeoikebedaaGreatDoorW.PrintWords YtaplpeoikebedaaGreatDoorW.PrintLast YtaplpeoikebedaaGreatDoorW.PrintMore
open See Mem Page Disk DiskN RecD Pool2 Pool3 Wal Fresh SysD SysM StoreD StoreF StoreI StoreJ RoomD TransT LockT LockU SpaceT WaitT FwdM FwdP FwdC FwdN FwdO FwdB FwdG First17 RefN BackM BackV BackM BackN RefN RefM MasC CkptM CkptK
attribute [local go_sem] max2_imax min2_imin max_two min_two
def MadePost19 (P blocks frames sess:Int)(w:World)(e:Ending)(w':World):Prop:=
  ∃cp bp bm sp lp pp dp qp mp q,e = .returned (.tuple #[.pointer (some ⟨cp,0,none⟩),.pointer (some ⟨q,0,none⟩),.pointer (some ⟨dp,0,none⟩)])∧CkM (fun k=>w.heap.size≤k) w' cp bp bm sp lp pp dp qp mp blocks frames (newB (newF P blocks frames sess)) ⟨1,0,1,0,P,blocks,frames⟩∧Below w.heap.size w w'
theorem made19_calls (P blocks frames sess:Int)(h1:1≤P∧P≤32)(h2:1≤blocks∧blocks≤100)(h3:1≤frames∧frames≤8)(w:World) :
    Calls Tryz.prog 40 #[.agg #[.int .i64 P,.int .i64 blocks,.int .i64 frames,.int .i64 sess]] w (MadePost19 P blocks frames sess w):=by
  obtain⟨n1,hn1⟩ : ∃n,1+P=n:=⟨_,rfl⟩
  obtain⟨n2,hn2⟩ : ∃n,n1+blocks=n:=⟨_,rfl⟩
  obtain⟨n3,hn3⟩ : ∃n,P+1=n:=⟨_,rfl⟩
  have e1:IntKind.i64.wrap (1+P)=n1:=by rw[IntKind.wrap_i64];omega
  have e2:IntKind.i64.wrap (n1+blocks)=n2:=by rw[IntKind.wrap_i64];omega
  have e3:IntKind.i64.wrap (P+1)=n3:=by rw[IntKind.wrap_i64];omega
  have HN2:=Aside0.mk (show secsN n2=(1+P+blocks).toNat from by unfold secsN;rw[imax_eq,imin_eq];omega)
  have HN3:=Aside0.mk hn3
  have HFR:=Aside0.mk (show imin (imax frames 1) 8=frames by rw[imax_eq,imin_eq];omega)
  have H123:=Aside0.mk (And.intro h1 (And.intro h2 h3))
  clear h1 h2 h3 hn1 hn2 hn3
  go_enter Tryz.func40,Tryz.ntmps40
  go_wp2_with fail
  refine (new_disk n2 _).mono ?_
  rintro e w0 ⟨dp,rfl,hd,hb⟩
  have HCF0:=Aside0.mk (show w0.heap[w.heap.size]? = some (.cells #[.int .i64 P,.int .i64 blocks,.int .i64 frames,.int .i64 sess] 31 (0,0)) from (hb.block w.heap.size (by show _<(w.heap.push _).size;rw[Array.size_push];omega)).trans (heap_alloc_new w _))
  rw[HN2.out] at hd
  have HD0:=Aside0.mk hd
  have HB0:=Aside0.mk (below_step (below_alloc (Below.refl w.heap.size w) _) hb)
  clear hd hb
  go_wp2_with fail
  refine (rdisk_calls n2 w0).mono ?_
  rintro e w1 ⟨rd,rfl,hb⟩
  have HB:=Aside0.mk (below_step HB0.out hb)
  have HD:=Aside0.mk (HD0.out.below hb)
  have HCF1:=Aside0.mk (cfg_keep HCF0.out hb)
  have hs1:w.heap.size≤w1.heap.size:=HB.out.size
  clear hb
  obtain⟨c0,c1,c2,c3⟩:=cfg_cells HCF1.out
  have hl1:=heap_lt HCF1.out
  go_wp2_with fail
  refine (new_log dp n3 blocks 0 1 _).mono ?_
  rintro e w2 ⟨rfl,hw2⟩
  have HW2:=Aside0.mk hw2
  have HB2:=Aside0.mk (show Below w1.heap.size w1 w2 by rw[hw2];exact below_alloc (Below.refl _ _) _)
  have HCF2:=Aside0.mk (cfg_keep HCF1.out HB2.out)
  clear hw2 c0 c1 c2 c3 hl1
  obtain⟨c0,c1,c2,c3⟩:=cfg_cells HCF2.out
  have hl1:=heap_lt HCF2.out
  go_wp2_with fail
  refine (rlog_calls rd n3 blocks 0 1 w2).mono ?_
  rintro e w3 ⟨rfl,hrl,hb⟩
  have HRL3:=Aside0.mk hrl
  have HB3:=Aside0.mk hb
  have HCF3:=Aside0.mk (cfg_keep HCF2.out hb)
  clear hrl hb c0 c1 c2 c3 hl1
  obtain⟨c0,c1,c2,c3⟩:=cfg_cells HCF3.out
  have hl1:=heap_lt HCF3.out
  go_wp2_with fail
  refine (new_pool dp _ frames _).mono ?_
  rintro e w4 ⟨rfl,hw4⟩
  have HW4:=Aside0.mk hw4
  rw[HFR.out] at HW4
  have HB4:=Aside0.mk (show Below w3.heap.size w3 w4 by rw[hw4];exact below_alloc (Below.refl _ _) _)
  have HCF4:=Aside0.mk (cfg_keep HCF3.out HB4.out)
  clear hw4 c0 c1 c2 c3 hl1
  have HX:=Aside0.mk (show SysM (fun k=>w.heap.size≤k) w4 w3.heap.size w1.heap.size dp (newF P blocks frames sess).S by
    have hs1:=HB.out.size
    have hs2:=HB2.out.size
    have hs3:=HB3.out.size
    have hp4:w4.heap[w3.heap.size]? = some (.cells (poolCells (.slice none 0 0) dp w1.heap.size frames (.slice none 0 0)) 163 (0,0)):=by rw[HW4.out];exact heap_alloc_new _ _
    have hl2:w2.heap[w1.heap.size]? = some (.cells (logCells dp n3 blocks 0 1 (.slice none 0 0) 0) 121 (0,0)):=by rw[HW2.out];exact heap_alloc_new _ _
    have hl4:=cfg_keep (cfg_keep hl2 HB3.out) HB4.out
    have:=H123.out
    rw[←HN3.out] at hl4
    exact sys0_mem ((((HD.out.mono fun k hk=>by
      have:(w.alloc (.cells #[.int .i64 P,.int .i64 blocks,.int .i64 frames,.int .i64 sess] 31)).heap.size=w.heap.size+1:=by show (w.heap.push _).size=_;rw[Array.size_push]
      have hk2:(w.alloc (.cells #[.int .i64 P,.int .i64 blocks,.int .i64 frames,.int .i64 sess] 31)).heap.size≤k:=hk
      show w.heap.size≤k
      omega).below HB2.out).below HB3.out).below HB4.out) hl4 hp4 (by omega) (by omega) (by omega) (by omega) (by omega))
  obtain⟨c0,c1,c2,c3⟩:=cfg_cells HCF4.out
  have hl1:=heap_lt HCF4.out
  have HB40:=Aside0.mk (below_step (below_step (below_step HB.out HB2.out) HB3.out) HB4.out)
  have HROOM:=Aside0.mk (show (newF P blocks frames sess).S.l.room=blocks*6 from by
    have:=H123.out
    have e:(newF P blocks frames sess).S.l.room=max (min (blocks*6 - 0) (1073741824 - (0+0))) 0:=rfl
    rw[e];omega)
  go_wp2_with fail
  refine (new_calls _ w1.heap.size w3.heap.size dp (newF P blocks frames sess).S P blocks frames sess 0 _ HX.out (by rw[HROOM.out];have:=H123.out;omega) (Int.le_refl 0)).mono ?_
  rintro e w5 ⟨sp,qp,mp,rfl,hf,hb⟩
  rw[HROOM.out] at hf
  have HF:=Aside0.mk (show FwM (fun k=>w.heap.size≤k) w5 sp w1.heap.size w3.heap.size dp qp mp blocks frames (newF P blocks frames sess) from fw_up HB40.out hf)
  have HB5:=Aside0.mk (below_step HB40.out hb)
  have HCF5:=Aside0.mk (cfg_keep HCF4.out hb)
  have HRL5:=Aside0.mk (cfg_keep (cfg_keep HRL3.out HB4.out) hb)
  clear hf hb c0 c1 c2 c3 hl1
  obtain⟨c0,c1,c2,c3⟩:=cfg_cells HCF5.out
  have hl1:=heap_lt HCF5.out
  go_wp2_with fail
  refine (bnew_calls w.heap.size sp w1.heap.size w3.heap.size dp qp mp blocks frames (newF P blocks frames sess) w5 HF.out HB5.out.size).mono ?_
  rintro e w6 ⟨bp,bm,rfl,hbk,hba⟩
  have HBK6:=Aside0.mk hbk
  have HB6:=Aside0.mk (below_step HB5.out hba)
  have HCF6:=Aside0.mk (cfg_keep HCF5.out hba)
  have HRL6:=Aside0.mk (cfg_keep HRL5.out hba)
  clear hbk hba c0 c1 c2 c3 hl1 HX HROOM HD HD0 HW2 HW4 HB0 HB HB2 HB3 HB4 HB40 HCF0 HCF1 HCF2 HCF3 HCF4 HCF5 HRL3 HRL5 HN2 HFR HF HB5
  obtain⟨c0,c1,c2,c3⟩:=cfg_cells HCF6.out
  have hl1:=heap_lt HCF6.out
  obtain⟨W7,hW7⟩ : ∃W,w6.alloc (.cells #[.int .i64 1,.int .i64 0,.int .i64 1,.int .i64 0,.int .i64 P,.int .i64 blocks,.int .i64 frames] 84)=W:=⟨_,rfl⟩
  have HWE:=Aside0.mk hW7
  have HB67:=Aside0.mk (show Below w6.heap.size w6 W7 by rw[←hW7];exact below_alloc (Below.refl _ _) _)
  have HM7:=Aside0.mk (show W7.heap[w6.heap.size]? = some (.cells #[.int .i64 1,.int .i64 0,.int .i64 1,.int .i64 0,.int .i64 P,.int .i64 blocks,.int .i64 frames] 84 (0,0)) by rw[←hW7];exact heap_alloc_new _ _)
  clear hW7
  go_upto_region 20 with fail
  rw[HWE.out]
  have HBK7:=Aside0.mk (HBK6.out.below HB67.out)
  have HB7:=Aside0.mk (below_step HB6.out HB67.out)
  have HCF7:=Aside0.mk (cfg_keep HCF6.out HB67.out)
  have HRL7:=Aside0.mk (cfg_keep HRL6.out HB67.out)
  clear HBK6 HB6 HCF6 HRL6 HB67 HWE c0 c1 c2 c3 hl1
  have HNEW:=Aside0.mk (fun (V:World)=>(show Calls Tryz.prog 94 #[.pointer (some ⟨bp,0,none⟩),.pointer (some ⟨dp,0,none⟩),.agg #[.int .i64 1,.int .i64 0,.int .i64 1,.int .i64 0,.int .i64 P,.int .i64 blocks,.int .i64 frames]] V fun e w' => ∃cp,e = .returned (.pointer (some ⟨cp,0,none⟩))∧V.heap.size≤cp∧w'.heap[cp]? = some (.cells (ckCells bp dp ⟨1,0,1,0,P,blocks,frames⟩) 86 (0,0))∧Below V.heap.size V w' from cknew_calls 0 bp dp ⟨1,0,1,0,P,blocks,frames⟩ V))
  have HNP:=Aside0.mk (fun (V:World)=>(rpool_calls rd w2.heap.size frames V).mono (fun e w' hh=>(⟨_,hh.1,hh.2⟩ : ∃q,e = .returned (.pointer (some ⟨q,0,none⟩))∧Below V.heap.size V w')))
  have HRN:=Aside0.mk (fun (q:Nat) (V:World) (hb:Below W7.heap.size W7 V)=>rnew2_calls 1 0 1 0 P blocks frames P blocks frames sess rd q (.pointer (some ⟨w2.heap.size,0,none⟩)) (.agg #[.int .i64 1,.int .i64 0,.int .i64 1,.int .i64 0,.int .i64 P,.int .i64 blocks,.int .i64 frames]) w2.heap.size V rfl rfl (by have:=H123.out;omega) (cellx (cfg_keep HRL7.out hb) rfl).1 (cellx (cfg_keep HRL7.out hb) rfl).1 (cellx (cfg_keep HRL7.out hb) rfl).1)
  have HCK:=Aside0.mk (fun (V:World) (hb:Below W7.heap.size W7 V)=>And.intro (cfg_cells (cfg_keep HCF7.out hb)) (mas7g (cfg_keep HM7.out hb)))
  obtain⟨⟨c0,c1,c2,c3⟩,⟨m0,m1,m2,m3,m4,m5,m6⟩⟩:=HCK.out W7 (Below.refl _ _)
  have hl1:=heap_lt HCF7.out
  have hl2:=heap_lt HM7.out
  go_cut [2,3,4] (fun v2 v3 v4 wx=>v4 = .pointer (some ⟨dp,0,none⟩)∧∃cp q,v2 = .pointer (some ⟨cp,0,none⟩)∧v3 = .pointer (some ⟨q,0,none⟩)∧Aside0 (W7.heap.size≤cp)∧Aside0 (wx.heap[cp]? = some (.cells (ckCells bp dp ⟨1,0,1,0,P,blocks,frames⟩) 86 (0,0)))∧Aside0 (Below W7.heap.size W7 wx))
  case first=>
    go_region_held3 (fun w'=>w'.cell? ⟨w.heap.size,0,none⟩=some (.int .i64 P)∧w'.cell? ⟨w.heap.size,1,none⟩=some (.int .i64 blocks)∧w'.cell? ⟨w.heap.size,2,none⟩=some (.int .i64 frames)∧w'.cell? ⟨w.heap.size,3,none⟩=some (.int .i64 sess)∧w'.cell? ⟨w6.heap.size,0,none⟩=some (.int .i64 1)∧w'.cell? ⟨w6.heap.size,1,none⟩=some (.int .i64 0)∧w'.cell? ⟨w6.heap.size,2,none⟩=some (.int .i64 1)∧w'.cell? ⟨w6.heap.size,3,none⟩=some (.int .i64 0)∧w'.cell? ⟨w6.heap.size,4,none⟩=some (.int .i64 P)∧w'.cell? ⟨w6.heap.size,5,none⟩=some (.int .i64 blocks)∧w'.cell? ⟨w6.heap.size,6,none⟩=some (.int .i64 frames))
      (first | exact⟨c0,c1,c2,c3,m0,m1,m2,m3,m4,m5,m6⟩ | exact⟨hka.1,hka.2.1,hka.2.2.1,hka.2.2.2,hma⟩ | exact⟨hkb.1,hkb.2.1,hkb.2.2.1,hkb.2.2.2,hmb⟩ | exact⟨hkc.1,hkc.2.1,hkc.2.2.1,hkc.2.2.2,hmc⟩ | go_keep)
      (first
        | (go_at_call 94;refine (HNEW.out _).mono ?_;rintro e wa ⟨cp,rfl,hcp,hch,hba⟩;have hqa:Below W7.heap.size W7 wa:=below_step (by repeat (first | exact hqc | exact hqb | exact Below.refl _ _ | apply below_drew1)) hba;obtain⟨hka,hma⟩:=HCK.out wa hqa)
        | (go_at_call 84;refine (HNP.out _).mono ?_;rintro e wb ⟨q1,rfl,hbb⟩;have hqb:Below W7.heap.size W7 wb:=below_step (by repeat (first | exact hqa | exact Below.refl _ _ | apply below_drew1)) hbb;obtain⟨hkb,hmb⟩:=HCK.out wb hqb)
        | (go_at_call 83;refine (HRN.out q1 _ ?hb).mono ?_;(case hb=>repeat (first | exact hqa | exact hqb | apply below_drew1));rintro e wc ⟨q2,rfl,hbc⟩;have hqc:Below W7.heap.size W7 wc:=below_step (by repeat (first | exact hqa | exact hqb | apply below_drew1)) hbc;obtain⟨hkc,hmc⟩:=HCK.out wc hqc))
    go_wp2_with fail
    go_meet
    exact⟨rfl,cp,q2,rfl,rfl,⟨hcp⟩,⟨((below_step hbb hbc).block _ (heap_lt hch)).trans hch⟩,⟨hqc⟩⟩
  case rest=>
    obtain⟨rfl,cp,q,rfl,rfl,HCP,HCH,HBX⟩:=hcut
    generalize wc=Z at HCH HBX ⊢
    have HBZ:=Aside0.mk (below_step HB7.out HBX.out)
    have HCKM:=Aside0.mk (show CkM (fun k=>w.heap.size≤k) Z cp bp bm sp w1.heap.size w3.heap.size dp qp mp blocks frames (newB (newF P blocks frames sess)) ⟨1,0,1,0,P,blocks,frames⟩ from⟨Cut (fun k=>w.heap.size≤k) W7.heap.size,HCH.out,(HBK7.out.cut).below HBX.out,fun k hk=>⟨hk.1,by have:=hk.2;have:=HCP.out;omega⟩,by have:=HCP.out;have:=HB7.out.size;show w.heap.size≤cp;omega⟩)
    go_wp2_with fail
    exact bodyPost_ret (v:=.tuple #[.pointer (some ⟨cp,0,none⟩),.pointer (some ⟨q,0,none⟩),.pointer (some ⟨dp,0,none⟩)]) (by simp[results,Tryz.results40,go_sem]) rfl ⟨cp,bp,bm,sp,_,_,dp,qp,mp,q,rfl,HCKM.out,HBZ.out⟩
end Go.Proofs.YtaplpeoikebedaaGreatDoor.CkptN
namespace Go.Proofs.YtaplpeoikebedaaGreatDoor.CkptB
open Go.RowKit Go.Maps YtaplpeoikebedaaGreatDoorW.PrintWords YtaplpeoikebedaaGreatDoorW.PrintLast YtaplpeoikebedaaGreatDoorW.PrintMore
open See Mem Page Disk DiskW RecD Wal Pool2 SysD SysM StoreD StoreF TransT SpaceT FwdM FwdP BackM BackU MasC CkptM
attribute [local go_sem] max2_imax min2_imin max_two min_two
theorem reset_busy (a:Nat→Addr)(M:Nat→Prop)(cp bp bm sp lp pp dp qp mp:Nat)(blocks frames:Int)(B:BSt)(m:Mst)(w:World)(h:CkM M w cp bp bm sp lp pp dp qp mp blocks frames B m)(hts:B.F.ts≠[])(hs:SentsAll w a) :
    Calls Tryz.prog 54 #[.pointer (some ⟨cp,0,none⟩)] w fun e w'=>e = .returned (errv a (some 15))∧Below w.heap.size w w':=by
  obtain⟨R,h⟩:=h
  obtain⟨Rb,sl,hb⟩:=h.b
  obtain⟨k0,_⟩:=h.cells
  obtain⟨b0,_⟩:=hb.cells
  have hcl:=heap_lt h.box
  have hbl:=heap_lt hb.box
  obtain⟨nt,hnt⟩ : ∃n,B.F.ts.length=n:=⟨_,rfl⟩
  have HNT:=Aside0.mk hnt
  have hnt0:0<nt:=by
    rw[←hnt]
    exact List.length_pos_iff.2 hts
  have HS:=Aside0.mk hs
  have HF:=Aside0.mk hb.f
  have HP:=Aside0.mk (parts_calls Rb sp lp pp dp qp mp blocks frames B.F w hb.f)
  clear h hb hs hts hnt
  go_enter Tryz.func54,Tryz.ntmps54
  go_wp2_with fail
  refine HP.out.mono ?_
  rintro e w1 ⟨rfl,hb1⟩
  have HB1:=Aside0.mk hb1
  have HAL:=Aside0.mk (show Calls Tryz.prog 79 #[.pointer (some ⟨sp,8,none⟩)] w1 fun e w' => ∃A c,e = .returned (.slice A nt c)∧Below w1.heap.size w1 w' from by
    obtain⟨kv,tv,q1,q2,q3,q4,q5⟩:=(HF.out.below hb1).box
    refine (tall_calls sp 8 tv B.F.ts w1 q4 (by simp[World.cell?,q1,fwCells])).mono ?_
    rintro e w' ⟨v,rfl,hv,hb⟩
    obtain⟨A,c,rfl,_⟩:=ow_slice hv.1
    rw[HNT.out]
    exact⟨A,c,rfl,hb⟩)
  clear hb1 k0 b0 hcl hbl
  go_wp2_with fail
  refine HAL.out.mono ?_
  rintro e w2 ⟨A,c,rfl,hb2⟩
  have HB2:=Aside0.mk (below_step HB1.out hb2)
  have hg:w2.cell? ⟨11,0,none⟩=some (.iface 333 (.pointer (some (a 15)))):=(HS.out.below HB2.out).cell 15 (by decide)
  have hgl:11<w2.heap.size:=World.block_lt_of_cell? _ _ hg
  clear hb2 HAL
  go_wp2_with fail
  go_ret
  exact⟨rfl,HB2.out⟩
end Go.Proofs.YtaplpeoikebedaaGreatDoor.CkptB
namespace Go.Proofs.YtaplpeoikebedaaGreatDoor.First19
open Go.RowKit Go.Maps YtaplpeoikebedaaGreatDoorW.PrintWords YtaplpeoikebedaaGreatDoorW.PrintLast YtaplpeoikebedaaGreatDoorW.PrintMore
open See Mem Page PageL Disk DiskN RecD Dirty Pool2 Pool3 Wal Fresh Num SysD SysM StoreD StoreF StoreI StoreJ StoreK SpaceT FwdM FwdP FwdB First17 BackM BackN MasC CkptM CkptN CkptB CkptC CkptX
attribute [local go_sem] max2_imax min2_imin max_two min_two
theorem ckbegin (a:Nat→Addr)(n cp bp bm sp lp pp dp qp mp:Nat)(blocks frames:Int)(B:BSt)(m:Mst)(N mm:Nat)(ch:Int→List Int)(kp:Int→Int)(w:World)(h:CkM (fun k=>n≤k) w cp bp bm sp lp pp dp qp mp blocks frames B m)(hn:n≤w.heap.size)(hok:FOk N mm ch kp B.F)(hs:SentsAll w a)(hO:OutAll (fun k=>n≤k) a)(h1:0<B.F.sess)(h2:B.F.sess≤1000)(hof:B.F.of 0=0)(hmo:B.F.most<60000)(hfr:3≤B.F.free) :
    Calls Tryz.prog 20 #[.pointer (some ⟨sp,0,none⟩),.int .i64 0] w fun e w'=>e = .returned .nilIface∧CkM (fun k=>n≤k) w' cp bp bm sp lp pp dp qp mp blocks frames { B with F:=beginF B.F 0 } m∧Below n w w':=by
  obtain⟨R,h⟩:=h
  obtain⟨Rb,sl,hb⟩:=h.b
  refine (begin_calls a Rb sp lp pp dp qp mp blocks frames B.F 0 _ _ _ _ w hb.f hok hs (OutAll.sub hO fun k hk=>(h.r k (hb.r k hk).1).1) (by decide) h1 h2 hof hmo).mono ?_
  rintro e w' hpost
  rcases hpost with ⟨_,rfl,hpost⟩ | ⟨hlt,_,_⟩
  · exact⟨rfl,ck_up (h.bk (hb.fw hpost)) hn⟩
  · exact absurd hlt (by omega)
theorem ck_box {M:Nat→Prop}{cp bp bm sp lp pp dp qp mp:Nat}{blocks frames:Int}{B:BSt}{m:Mst}{w:World}(h:CkM M w cp bp bm sp lp pp dp qp mp blocks frames B m):(w.cell? ⟨cp,0,none⟩=some (.pointer (some ⟨bp,0,none⟩))∧cp<w.heap.size)∧w.cell? ⟨bp,0,none⟩=some (.pointer (some ⟨sp,0,none⟩))∧bp<w.heap.size:=by
  obtain⟨R,h⟩:=h
  obtain⟨Rb,sl,hb⟩:=h.b
  exact⟨⟨h.cells.1,heap_lt h.box⟩,hb.cells.1,heap_lt hb.box⟩
theorem mst_field (e b r c p l f:Int)(W:World):(Instr.field 84 (.agg #[.int .i64 e,.int .i64 b,.int .i64 r,.int .i64 c,.int .i64 p,.int .i64 l,.int .i64 f]) 3).run Tryz.prog W = .ok (.int .i64 c) W:=by kernel_rfl
theorem first19_calls (a:Nat→Addr)(w:World)(hs:SentsAll w a) :
    Calls Tryz.prog 39 #[] w fun e w'=>e = .returned (.bool true)∧Below w.heap.size w w':=by
  have HS:=Aside0.mk hs
  have HO:=Aside0.mk (out_all HS.out)
  have HOK:=Aside0.mk (new_ok (P:=2) (blocks:=6) (frames:=2) (sess:=2) 0 (by omega) (by omega) (by omega))
  have HOK4:=Aside0.mk (begin_ok (n:=0) HOK.out rfl (by decide) (by decide) rfl (by decide) (by decide))
  clear hs
  go_enter Tryz.func39,Tryz.ntmps39
  go_wp2_with fail
  refine (made19_calls 2 6 2 2 (by omega) (by omega) (by omega) w).mono ?_
  rintro e w1 ⟨cp,bp,bm,sp,lp,pp,dp,qp,mp,q,rfl,hck,hb⟩
  have HCK:=Aside0.mk hck
  have HB:=Aside0.mk hb
  obtain⟨⟨k0,hcl⟩,b0,hbl⟩:=ck_box hck
  clear hck hb
  go_wp2_with fail
  refine (ckbegin a w.heap.size cp bp bm sp lp pp dp qp mp 6 2 _ _ _ 0 _ _ w1 HCK.out HB.out.size HOK.out (HS.out.below HB.out) HO.out (by decide) (by decide) rfl (by decide) (by decide)).mono ?_
  rintro e w2 ⟨rfl,hck,hb⟩
  have HCK2:=Aside0.mk hck
  have HB2:=Aside0.mk (HB.out.trans hb)
  clear hck hb k0 hcl b0 hbl
  go_wp2_with fail
  refine (reset_busy a _ cp bp bm sp lp pp dp qp mp 6 2 _ _ w2 HCK2.out (by decide) (HS.out.below HB2.out)).mono ?_
  rintro e w3 ⟨rfl,hb⟩
  have HCK3:=Aside0.mk (HCK2.out.below hb)
  have HB3:=Aside0.mk (below_step HB2.out hb)
  clear hb
  go_wp2_with fail
  refine (is_calls a (errv a (some 15)) 116 (.inr ⟨15,by decide,rfl,by decide⟩) 116 _ (HS.out.below HB3.out)).mono ?_
  rintro e w4 ⟨rfl,hb⟩
  have HCK4:=Aside0.mk (HCK3.out.below hb)
  have HB4:=Aside0.mk (below_step HB3.out hb)
  clear hb
  rw[show ((116:Int) == 116)=true from by decide]
  go_wp2_with fail
  refine (ckpt_calls a _ cp bp bm sp lp pp dp qp mp 6 2 _ _ _ 0 _ _ w4 HCK4.out HOK4.out (by decide) (by decide) ⟨⟨by decide,by decide⟩,⟨by decide,by decide⟩,⟨by decide,by decide⟩,.inl rfl,⟨by decide,by decide⟩,⟨by decide,by decide⟩,⟨by decide,by decide⟩⟩ (by decide) (by decide) (HS.out.below HB4.out) HO.out).mono ?_
  rintro e w5 ⟨rfl,hp⟩
  obtain⟨hck,hb⟩:=ck_up hp HB4.out.size
  have HB5:=Aside0.mk (HB4.out.trans hb)
  have HMA:=Aside0.mk (show Calls Tryz.prog 41 #[.pointer (some ⟨cp,0,none⟩)] w5 fun e w'=>e = .returned (.agg #[.int .i64 1,.int .i64 0,.int .i64 1,.int .i64 2,.int .i64 2,.int .i64 6,.int .i64 2])∧Below w5.heap.size w5 w' from master_calls hck)
  clear hck hb hp
  go_wp2_with fail
  refine HMA.out.mono ?_
  rintro e w6 ⟨rfl,hb⟩
  have HB6:=Aside0.mk (below_step HB5.out hb)
  have hfd:=mst_field 1 0 1 2 2 6 2 w6
  clear hb
  go_wp2_with fail
  go_ret
  exact⟨rfl,HB6.out⟩
end Go.Proofs.YtaplpeoikebedaaGreatDoor.First19
namespace Go.Proofs.YtaplpeoikebedaaGreatDoor.PagW
open Go.RowKit Go.Maps YtaplpeoikebedaaGreatDoorW.PrintWords YtaplpeoikebedaaGreatDoorW.PrintLast YtaplpeoikebedaaGreatDoorW.PrintMore
open See Mem Page PageL Disk RecD Dirty Pool2 SysD SysM Pager StoreD StoreF StoreI StoreJ FwdM FwdP BackM BackE ValD MasC CkptD CkptM CkptK
section
variable {n cp bp bm sp lp pp dp qp mp:Nat}{blocks frames:Int}{B:BSt}{m:Mst}{w:World}{a:Nat→Addr}
theorem pg_get {N mm:Nat}{f:Int→Option Int}{k:Int}(h:CkM (fun j=>n≤j) w cp bp bm sp lp pp dp qp mp blocks frames B m)(hn:n≤w.heap.size)(hr:RSt N mm f B.F)(hmm:mm≤30000)(k0:0≤k)(k1:k<1048576)(hS:SentsAll w a)(hO:OutAll (fun j=>n≤j) a) :
    Calls Tryz.prog 36 #[.pointer (some ⟨bp,0,none⟩),.int .i64 0,.int .i64 k,.int .i64 k] w fun e w'=>e = .returned (.tuple #[.int .i64 ((f k).getD 0),.bool (f k).isSome,.nilIface])∧∃B',RSt N (mm+1) f B'.F∧CkM (fun j=>n≤j) w' cp bp bm sp lp pp dp qp mp blocks frames B' m∧Below n w w':=by
  obtain⟨R,h⟩:=h
  obtain⟨ch,kp,hok⟩:=hr.ok
  obtain⟨q1,q2,q3,q4⟩:=r_get hr k k
  have hl:=hr.kl
  have:=bget_calls a R bp bm sp lp pp dp qp mp blocks frames B 0 k k _ _ _ _ w h.b hok q2 hS (OutAll.sub hO fun j hj=>(h.r j hj).1) (by decide) (by rw[hr.sess];decide) (by rw[hr.sess];decide) hr.has_ k0 k1 (by omega) (by omega) (by omega) (by omega)
  rw[q3,q4] at this
  refine this.mono ?_
  rintro e w' ⟨rfl,hp⟩
  exact⟨rfl,⟨takesF B.F 0 k 1 k,B.sv,B.nu⟩,q1,ck_up (h.bk hp) hn⟩
end
end Go.Proofs.YtaplpeoikebedaaGreatDoor.PagW
namespace Go.Proofs.YtaplpeoikebedaaGreatDoor.FwdK
open Go.RowKit Go.Maps YtaplpeoikebedaaGreatDoorW.PrintWords YtaplpeoikebedaaGreatDoorW.PrintLast YtaplpeoikebedaaGreatDoorW.PrintMore
open See Mem Page Disk DiskN DiskW RecD Rec Dirty Wal WalF Pool2 SysD SysM FlushG StoreD StoreF StoreH StoreK ChainT TransT LockT LockU SpaceT WaitT FwdM FwdP FwdC FwdN FwdB EndT FwdL
attribute [local go_sem] max2_imax min2_imin max_two min_two
theorem commit_calls (a:Nat→Addr)(M:Nat→Prop)(sp lp pp dp qp mp:Nat)(blocks frames:Int)(F:FS)(n id:Int)(N m:Nat)(ch:Int→List Int)(kp:Int→Int)(w:World)(h:FwM M w sp lp pp dp qp mp blocks frames F)(hok:FOk N m ch kp F)(hcm:CommitOk N m ch kp F n id)(hs:SentsAll w a)(hO:OutAll M a)(h0:0≤n)(h1:n<F.sess)(h2:F.sess≤1000)(hof:F.of n=id)(hid:thas F.ts id=true)(hm:m≤30000)(hall : ∀x∈F.ks,x.s=n) :
    Calls Tryz.prog 25 #[.pointer (some ⟨sp,0,none⟩),.int .i64 n] w fun e w'=>e = .returned .nilIface∧FwPost M sp lp pp dp qp mp blocks frames (commitF F n id ((ch id).length:Int)) w w':=by
  have HC:=Aside0.mk (called_calls M sp lp pp dp qp mp blocks frames F n w h h0 h1 h2 (by rw[hof];exact hid) hok.t.rise)
  have HF:=Aside0.mk h
  have HS:=Aside0.mk hs
  have HO:=Aside0.mk hO
  have HOK:=Aside0.mk hok
  have HCM:=Aside0.mk hcm
  have HM:=Aside0.mk hm
  have HALL:=Aside0.mk hall
  have HOF:=Aside0.mk (And.intro hof hid)
  have HN:=Aside0.mk (And.intro h0 (And.intro h1 h2))
  obtain⟨x,hxx⟩ : ∃x,tget F.ts id=x:=⟨_,rfl⟩
  have htid:=(tget_mem hid).2
  have HXX:=Aside0.mk hxx
  rw[hof,hxx] at HC
  rw[hxx] at htid
  obtain⟨xi,xs,xl,xn⟩:=x
  simp only at htid
  subst htid
  simp only[txV] at HC
  clear h hok hcm hs hO h0 h1 h2 hof hid hm hall hxx
  go_enter Tryz.func25,Tryz.ntmps25
  go_wp2_with fail
  refine HC.out.mono ?_
  rintro e w1 ⟨rfl,hb⟩
  obtain⟨bx,hbx⟩ : ∃bx,w1.heap.size=bx:=⟨_,rfl⟩
  obtain⟨V0,hV0⟩ : ∃V,w1.alloc (.cells #[.int .i64 xi,.int .i64 xs,.int .i64 xl,.int .i64 xn] 102)=V:=⟨_,rfl⟩
  have HXB:=Aside0.mk (show V0.heap[bx]? = some (.cells #[.int .i64 xi,.int .i64 xs,.int .i64 xl,.int .i64 xn] 102 (0,0)) by rw[←hV0,←hbx];exact heap_alloc_new _ _)
  have HB0:=Aside0.mk (show Below w.heap.size w V0 by rw[←hV0];exact below_alloc hb _)
  have HL0:=Aside0.mk (LB.start HF.out HB0.out)
  have hbw:w.heap.size≤bx:=by have:=hb.size;omega
  have HWE:=Aside0.mk (And.intro hV0 hbx)
  clear hb hbx hV0
  go_upto_region 2 with fail
  rw[HWE.out.1,HWE.out.2]
  have j4:=HL0.out.f.cells.2.2.1
  obtain⟨x0,x1,x2,x3,_,_,_,_⟩:=tx_cells HXB.out
  have HALLC:=Aside0.mk (show ∀(V:World),Below V0.heap.size V0 V→Calls Tryz.prog 73 #[.pointer (some ⟨lp,0,none⟩),.int .i64 xn] V fun e w' => ∃v',e = .returned (.tuple #[v',.nilIface])∧IS w' V.heap.size v' (ch xi)∧Below V.heap.size V w' from fun V hbl=>by
    have hl:=HL0.out.below hbl
    obtain⟨lv,hlg⟩:=hl.f.sys.log
    have hc:=HCM.out.chain
    rw[HXX.out] at hc
    exact all_calls _ lp dp lv F.S.l xn (ch xi) V hlg hc HCM.out.few)
  go_upto_region 4 with fail
  go_cut [7,6] (fun v7 v6 wx=>v6 = .nilIface∧(∃A c,v7 = .slice A (ch xi).length c)∧Aside0 (Below V0.heap.size V0 wx))
  case first=>
    go_region_law (first
      | (go_simp;go_at_call 73;refine (HALLC.out _ (by repeat (first | exact Below.refl _ _ | apply below_drew1))).mono ?_;rintro e w4 ⟨v4,rfl,hi4,hb4⟩;obtain⟨A4,c4,rfl,_⟩:=ow_slice hi4;have HB4:=Aside0.mk hb4;clear hi4 hb4))
    all_goals
      go_wp2_with fail
      go_meet
      exact⟨rfl,⟨_,_,rfl⟩,⟨below_step (by repeat (first | exact Below.refl _ _ | apply below_drew1)) HB4.out⟩⟩
  case rest=>
    obtain⟨rfl,⟨A4,c4,rfl⟩,HB4⟩:=hcut
    generalize wc=V1 at HB4 ⊢
    have HL1:=Aside0.mk (HL0.out.below HB4.out)
    have HSS:=Aside0.mk (HL1.out.sents HS.out HO.out)
    obtain⟨k,hk⟩ : ∃k,(ch xi).length=k:=⟨_,rfl⟩
    have HK:=Aside0.mk hk
    rw[hk]
    clear x0 x1 x2 x3 j4 hk
    obtain⟨x0,x1,x2,x3,_,_,_,_⟩:=tx_cells (HL1.out.at HXB.out hbw)
    have HFA:=Aside0.mk (by
      have h4:=HCM.out.rec4
      rw[HXX.out] at h4
      exact fappend_calls a _ sp lp pp dp qp mp blocks frames F (recMark ⟨xi,xs,xl,xn⟩ 4) V1 HL1.out.f HSS.out.1 HSS.out.2 ⟨HCM.out.kept,(room_top HOK.out.g).2⟩ h4 HCM.out.room)
    simp only[recV,recMark] at HFA
    go_wp2_with fail
    refine HFA.out.mono ?_
    rintro e V2 ⟨rfl,hp2⟩
    have HL2:=Aside0.mk (HL1.out.step hp2)
    clear hp2 x0 x1 x2 x3 HFA
    obtain⟨cs,tv,htx,hput⟩:=FwM.txs HL2.out.f HOK.out.t.rise
    have HTX:=Aside0.mk htx
    have HPT:=Aside0.mk hput
    clear htx hput
    have HNT:=Aside0.mk (show ∀(V:World),Below V2.heap.size V2 V→Calls Tryz.prog 66 #[.pointer (some ⟨sp,8,none⟩),.int .i64 xi,.int .i64 (F.S.l.last+1),.int .i64 xn] V (fun e w'=>e = .returned (.bool true)∧∃R,LB M sp lp pp dp qp mp blocks frames { addK F (recMark ⟨xi,xs,xl,xn⟩ 4) with ts:=tnote F.ts xi (F.S.l.last+1) xn } w V0 R w') from fun V hbl=>by
      have:=tnote_calls _ sp 8 118 cs tv F.ts F.most xi (F.S.l.last+1) xn V (HTX.out.below hbl) HOF.out.2
      exact this.mono fun e w' hh=>by
        obtain⟨rfl,hpost⟩:=hh
        exact⟨rfl,_,HL2.out.step (HPT.out _ _ _ (Int.le_refl _) (hpost.back hbl))⟩)
    obtain⟨x0,x1,x2,x3,_,_,_,_⟩:=tx_cells (HL2.out.at HXB.out hbw)
    go_upto_region 10 with fail
    go_cut [] (fun wx => ∃R,Aside0 (LB M sp lp pp dp qp mp blocks frames { addK F (recMark ⟨xi,xs,xl,xn⟩ 4) with ts:=tnote F.ts xi (F.S.l.last+1) xn } w V0 R wx))
    case first=>
      go_region_law (first
        | (go_simp;go_at_call 66;refine (HNT.out _ (by repeat (first | exact Below.refl _ _ | apply below_drew1))).mono ?_;rintro e w6 ⟨rfl,R6,hl6⟩;have HL6:=Aside0.mk hl6;clear hl6))
      all_goals
        go_wp2_with fail
        go_meet
        exact⟨R6,HL6⟩
    case rest=>
      obtain⟨R3,HL3⟩:=hcut
      generalize wc=V3 at HL3 ⊢
      clear x0 x1 x2 x3 HTX HPT HNT
      have HRS:=Aside0.mk (show Rising (kvT (tnote F.ts xi (F.S.l.last+1) xn)) by have:=HCM.out.rise1;rw[HXX.out] at this;exact this)
      have HHS:=Aside0.mk (show thas (tnote F.ts xi (F.S.l.last+1) xn) xi=true by have:=HCM.out.has1;rw[HXX.out] at this;exact this)
      obtain⟨cs2,tv2,htx,hput⟩:=FwM.txs HL3.out.f HRS.out
      have HTX:=Aside0.mk htx
      have HPT:=Aside0.mk hput
      clear htx hput
      have HST:=Aside0.mk (show ∀(V:World),Below V3.heap.size V3 V→Calls Tryz.prog 75 #[.pointer (some ⟨sp,8,none⟩),.int .i64 xi,.int .i64 1] V (fun e w'=>e = .returned (.bool true)∧∃R,LB M sp lp pp dp qp mp blocks frames (markF F xi 4 1) w V0 R w') from fun V hbl=>by
        have:=tstate_calls _ sp 8 118 cs2 tv2 (tnote F.ts xi (F.S.l.last+1) xn) F.most xi 1 V (HTX.out.below hbl) HHS.out
        exact this.mono fun e w' hh=>by
          obtain⟨rfl,hpost⟩:=hh
          have hl:=HL3.out.step (HPT.out _ _ _ (Int.le_refl _) (hpost.back hbl))
          have hmk:markF F xi 4 1={ addK F (recMark ⟨xi,xs,xl,xn⟩ 4) with ts:=tstate (tnote F.ts xi (F.S.l.last+1) xn) xi 1 }:=by
            unfold markF
            rw[HXX.out]
            rfl
          rw[hmk]
          exact⟨rfl,_,hl⟩)
      obtain⟨x0,x1,x2,x3,_,_,_,_⟩:=tx_cells (HL3.out.at HXB.out hbw)
      go_upto_region 11 with fail
      go_cut [] (fun wx => ∃R,Aside0 (LB M sp lp pp dp qp mp blocks frames (markF F xi 4 1) w V0 R wx))
      case first=>
        go_region_law (first
          | (go_simp;go_at_call 75;refine (HST.out _ (by repeat (first | exact Below.refl _ _ | apply below_drew1))).mono ?_;rintro e w6 ⟨rfl,R6,hl6⟩;have HL6:=Aside0.mk hl6;clear hl6))
        all_goals
          go_wp2_with fail
          go_meet
          exact⟨R6,HL6⟩
      case rest=>
        obtain⟨R4,HL4⟩:=hcut
        generalize wc=V4 at HL4 ⊢
        clear x0 x1 x2 x3 HTX HPT HST
        have j4:=HL4.out.f.cells.2.2.1
        obtain⟨lv,hlg⟩:=HL4.out.f.sys.log
        have HLG:=Aside0.mk hlg
        have HS4:=Aside0.mk (HL4.out.sents HS.out HO.out)
        clear hlg
        go_wp2_with fail
        refine (flush_log a _ lp dp lv (markF F xi 4 1).S.l (markF F xi 4 1).S.d _ (HS4.out.1.k _ (by decide)) (HS4.out.2.k _ (by decide)) HL4.out.f.sys.dsk HLG.out HCM.out.ok1.g.fuse (HCM.out.ok1.g.loose.mono (by have:=HM.out;omega))).mono ?_
        rintro e V5 ⟨rfl,hd5,hl5,hf5⟩
        rw[HCM.out.fine,show errv a none = .nilIface from rfl]
        have HL5:=Aside0.mk (show LB M sp lp pp dp qp mp blocks frames (flushF (markF F xi 4 1)) w V0 _ V5 from HL4.out.step (FwM.sy HL4.out.f (SysM.logd HL4.out.f.sys hd5 hl5 hf5 HCM.out.ok2.g.fuse) (frm_sys2 hf5)))
        have HS5:=Aside0.mk (HL5.out.sents HS.out HO.out)
        clear hd5 hl5 hf5 j4 HLG
        go_wp2_with fail
        refine (leave_calls a _ sp lp pp dp qp mp blocks frames (flushF (markF F xi 4 1)) n xi _ HL5.out.f HS5.out.1 HS5.out.2 HN.out.1 (by have:=HN.out;omega) HOF.out.1 HCM.out.has2 HCM.out.ok2.t.rise (tget_mem HCM.out.has2).2 ⟨by have:=HCM.out.kept2;omega,(room_top HCM.out.ok2.g).2⟩ HCM.out.rec6 HCM.out.room2 HALL.out).mono ?_
        rintro e V6 ⟨rfl,hp6⟩
        have HL6:=Aside0.mk (HL5.out.step hp6)
        clear hp6
        have j10:=HL6.out.f.cells.2.2.2.2.2.2.1
        go_wp2_with fail
        refine (let_space _ qp (flushF (markF F xi 4 1)).free ((flushF (markF F xi 4 1)).kept - 1) (k:Int) _ HL6.out.f.room HL6.out.f.low.2.1 (by omega) (by have:=HCM.out.kept2;have:=HK.out;omega) (by have:=(room_top HCM.out.ok2.g).2;omega) HCM.out.ok2.g.room.1 (room_top HCM.out.ok2.g).1).mono ?_
        rintro e V7 ⟨rfl,hs7,hf7⟩
        have HL7:=Aside0.mk (HL6.out.step (FwM.spc HL6.out.f hs7 hf7))
        clear hs7 hf7 j10
        have HFE:=Aside0.mk (show freeL (flushF (markF F xi 4 1)).ks n=[] from by
          unfold freeL
          rw[List.filter_eq_nil_iff]
          intro y hy
          have:=HALL.out y hy
          simp[this])
        go_wp2_with fail
        go_ret
        refine⟨rfl,?_⟩
        have hp:=HL7.out.post
        unfold commitF endF
        rw[HFE.out,HK.out]
        exact hp
end Go.Proofs.YtaplpeoikebedaaGreatDoor.FwdK
