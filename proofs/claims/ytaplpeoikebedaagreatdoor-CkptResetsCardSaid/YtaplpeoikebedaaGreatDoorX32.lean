/- Joined texts: PageV, PageW, ChangeT. No condition but what each says. -/
import Derived.Test.YtaplpeoikebedaaGreatDoorX29
import Derived.Deep.RegionLaw
import Derived.Test.YtaplpeoikebedaaGreatDoorX31
import Derived.Test.YtaplpeoikebedaaGreatDoorX12
set_option maxHeartbeats 8000000
set_option maxRecDepth 100000
set_option linter.unusedVariables false
set_option linter.unusedSimpArgs false
namespace Go.Proofs.YtaplpeoikebedaaGreatDoor.PageV
open Go.RowKit YtaplpeoikebedaaGreatDoorW.PrintWords YtaplpeoikebedaaGreatDoorW.PrintLast YtaplpeoikebedaaGreatDoorW.PrintMore
open See Mem Clone Go.Proofs.YtaplpeoikebedaaGreatDoor.Cell Page PageB PageR PageL Dirty Dirty2 SysD Rw Del Ins2 StoreD PageM PageO
attribute [local go_sem] max2_imax min2_imin max_two min_two
theorem putE_has {es:List (Int×Int)}{n v:Int}{k:Nat}(hk:pos es n=k)(h:has es n=true):putE es n v=es.set k (n,v)∧k<es.length:=by
  obtain⟨f,hf⟩:=pos_has h
  rw[hk] at hf
  exact⟨by unfold putE;rw[if_pos h,hk],(List.getElem?_eq_some_iff.1 hf).1⟩
theorem putE_not {es:List (Int×Int)}{n v:Int}{k:Nat}(hk:pos es n=k)(h:has es n=false):putE es n v=es.take k++(n,v) :: es.drop k∧k≤es.length:=by
  refine⟨by unfold putE addT;rw[h,hk];rfl,by rw[←hk];exact pos_le es n⟩
theorem cells2_set (es:List (Int×Int))(k:Nat)(n v:Int)(f:Int)(h:es[k]? = some (n,f)):cells2 (es.set k (n,v))=setL (cells2 es) (k*2+1) [.int .i64 v]:=by
  induction es generalizing k with
  | nil=>simp at h
  | cons x es ih=>
    cases k with
    | zero=>
      simp at h
      subst h
      simp[cells2,setL]
    | succ k=>
      have:=ih k (by simpa using h)
      rw[List.set_cons_succ]
      unfold cells2 at this ⊢
      simp only[List.flatMap_cons]
      rw[this,show (k+1)*2+1=k*2+1+1+1 from by omega]
      simp[setL]
theorem eput_has (lsn:Int)(v:Value)(es:List (Int×Int))(n x:Int)(w:World)(hp:P2 w 169 v es)(hr:Rising es)(hh:has es n=true) :
    Calls Tryz.prog 187 #[.agg #[.int .i64 lsn,v],.int .i64 n,.int .i64 x] w fun e w' => ∃v',e = .returned (.tuple #[.agg #[.int .i64 lsn,v'],.bool true])∧P2 w' 169 v' (putE es n x)∧Below w.heap.size w w':=by
  have HP:=Aside0.mk hp
  have HR:=Aside0.mk hr
  have HFIND:=Aside0.mk (fun (W:World) (hb:Below w.heap.size w W)=>efind_calls lsn v es n W (hp.below hb) hr)
  obtain⟨A,cap,hv,_⟩:=ow_slice hp.1
  obtain⟨l,hl⟩ : ∃l,es.length=l:=⟨_,rfl⟩
  have HL:=Aside0.mk hl
  have hl5:l≤100000:=by rw[←hl];exact hp.2
  rw[hl] at hv
  have hl':=hl
  clear hp hr hl
  subst hv
  obtain⟨k,hk⟩ : ∃k:Nat,pos es n=k:=⟨_,rfl⟩
  have HK:=Aside0.mk hk
  have HA:=Aside0.mk (putE_has (v:=x) hk hh).1
  have hkl:k<l:=by rw[←hl'];exact (putE_has (v:=x) hk hh).2
  have HLN:=Aside0.mk (show (putE es n x).length=l by rw[HA.out,List.length_set,hl'])
  have HNF:=Aside0.mk (show ∃f,es[k]? = some (n,f) by
    obtain⟨f,hf⟩:=pos_has hh
    rw[hk] at hf
    exact⟨f,hf⟩)
  have HFD':=Aside0.mk (fun (W:World) (hb:Below w.heap.size w W)=>by have h:=HFIND.out W hb;rw[hh,hk] at h;exact h)
  clear hh hk HFIND
  go_enter Tryz.func187,Tryz.ntmps187
  go_wp2_with fail
  refine (HFD'.out _ (by repeat (first | exact Below.refl _ _ | apply below_drew1 | apply below_alloc))).mono ?_
  rintro e w1 ⟨rfl,hb⟩
  have HB:=Aside0.mk (below_step (show Below w.heap.size w ((w.alloc (.cells #[.int .i64 lsn,.slice A l cap] 74)).alloc (.cells #[.int .i64 0,.slice none 0 0] 74)) by repeat (first | exact Below.refl _ _ | apply below_alloc)) hb)
  have HBX:=Aside0.mk (show w1.heap[w.heap.size]? = some (.cells #[.int .i64 lsn,.slice A l cap] 74 (0,0)) from (hb.block w.heap.size (by show w.heap.size<((w.heap.push _).push _).size;rw[Array.size_push,Array.size_push];omega)).trans ((Below.heap_alloc _ _ _ (by show w.heap.size<(w.heap.push _).size;rw[Array.size_push];omega)).trans (heap_alloc_new w _)))
  have HBR:=Aside0.mk (show w1.heap[w.heap.size+1]? = some (.cells #[.int .i64 0,.slice none 0 0] 74 (0,0)) from (hb.block (w.heap.size+1) (by simp)).trans (by have:=heap_alloc_new (w.alloc (.cells #[.int .i64 lsn,.slice A l cap] 74)) (.cells #[.int .i64 0,.slice none 0 0] 74);simpa using this))
  obtain⟨q0,q1,f0,f1⟩:=pg_cells HBX.out
  have hz1:w.heap.size<w1.heap.size:=heap_lt HBX.out
  clear hb
  go_wp2_with fail
  have HCL1:=Aside0.mk (fun (W:World) (hb:Below w1.heap.size w1 W)=>clone_p2 HP.out HB.out hb)
  have HCL2:=Aside0.mk (fun (W:World) (hb:Below w1.heap.size w1 W) (hy:W.heap[w1.heap.size]? = some (.cells #[.int .i64 0,.slice none 0 0] 74 (0,0)))=>clone_p2_keep HP.out HB.out hb hy)
  rw[HL.out] at HCL1 HCL2
  go_region_law (first
    | (go_simp;go_at_call 146;refine (HCL2.out _ (by repeat (first | exact Below.refl _ _ | apply below_drew1 | apply below_alloc)) (by exact heap_alloc_new w1 _)).mono ?_;rintro e w2 ⟨A2,c2,rfl,hp2,hb2,hbo⟩;obtain⟨o0,o1,g0,g1⟩:=pg_cells hbo;obtain⟨k0,k1,l0,l1⟩:=pg_cells ((hb2.block _ hz1).trans HBX.out);have hlt2:=heap_lt hbo;have hlt3:=Nat.lt_of_lt_of_le hz1 hb2.size)
    | (go_simp;go_at_call 146;refine (HCL1.out _ (by repeat (first | exact Below.refl _ _ | apply below_drew1 | apply below_alloc))).mono ?_;rintro e w2 ⟨A2,c2,rfl,hp2,hb2⟩;obtain⟨k0,k1,l0,l1⟩:=pg_cells ((hb2.block _ hz1).trans HBX.out);have hlt2:=Nat.lt_of_lt_of_le hz1 hb2.size))
  all_goals
    have t1:tag w2 (w.heap.size+1)=74:=tag_of ((hb2.block _ (heap_lt HBR.out)).trans HBR.out)
    have hbr2:=(hb2.block _ (heap_lt HBR.out)).trans HBR.out
    have hrl:=heap_lt HBR.out
    have hrl2:=Nat.lt_of_lt_of_le hrl hb2.size
    have HBB:=Aside0.mk (below_step HB.out hb2)
    clear k0 k1 l0 l1 q0 q1 f0 f1
    first
      | (obtain⟨wx,bo,HW,HBO⟩ : ∃(wx:World) (bo:Nat),Aside0 (wx=(w2.setCell ⟨w1.heap.size,0,none⟩ (.int .i64 lsn)).setCell ⟨w1.heap.size,1,none⟩ (.slice A2 l c2))∧Aside0 (bo=w1.heap.size):=⟨_,_,⟨rfl⟩,⟨rfl⟩⟩
         have hpo:wx.heap[bo]? = some (.cells #[.int .i64 lsn,.slice A2 l c2] 74 (0,0)):=by rw[HW.out,HBO.out];exact heap_setCell_same _ _ _ _ _ _ (heap_setCell_same _ _ _ _ _ _ hbo)
         have hne:bo≠w.heap.size+1:=by have:=HBO.out;omega
         have hpr:wx.heap[w.heap.size+1]? = some (.cells #[.int .i64 0,.slice none 0 0] 74 (0,0)):=by rw[HW.out,Below.heap_setCell _ _ _ _ (by have:=HBO.out;show w.heap.size+1≠w1.heap.size;omega),Below.heap_setCell _ _ _ _ (by have:=HBO.out;show w.heap.size+1≠w1.heap.size;omega)];exact hbr2
         have hfr:Frm [74] (fun _=>True) w2 wx:=by rw[HW.out];exact ((Frm.refl _ _ w2).set (fun _=>⟨trivial,by rw[tag_of hbo];exact List.mem_cons_self⟩) _).set (fun _=>⟨trivial,by rw[tag_of hbo];exact List.mem_cons_self⟩) _
         have hbw:Below w.heap.size w wx:=by rw[HW.out];exact (HBB.out.setCell (by show w.heap.size≤w1.heap.size;omega) _).setCell (by show w.heap.size≤w1.heap.size;omega) _
         rw[←HW.out,←HBO.out])
      | (obtain⟨wx,bo,HW,HBO⟩ : ∃(wx:World) (bo:Nat),Aside0 (wx=w2.alloc (.cells #[.int .i64 lsn,.slice A2 l c2] 74))∧Aside0 (bo=w2.heap.size):=⟨_,_,⟨rfl⟩,⟨rfl⟩⟩
         have hpo:wx.heap[bo]? = some (.cells #[.int .i64 lsn,.slice A2 l c2] 74 (0,0)):=by rw[HW.out,HBO.out];exact heap_alloc_new _ _
         have hne:bo≠w.heap.size+1:=by have:=HBO.out;omega
         have hpr:wx.heap[w.heap.size+1]? = some (.cells #[.int .i64 0,.slice none 0 0] 74 (0,0)):=by rw[HW.out];exact (Below.heap_alloc _ _ _ hrl2).trans hbr2
         have hfr:Frm [74] (fun _=>True) w2 wx:=by rw[HW.out];exact (Frm.refl _ _ w2).alloc _
         have hbw:Below w.heap.size w wx:=by rw[HW.out];exact below_alloc HBB.out _
         rw[←HW.out,←HBO.out])
  all_goals
    have HROW:=Aside0.mk (ow_frm (T:=[74]) (ow_base hp2 (Nat.le_trans HB.out.size (Nat.le_refl _))) hfr (by decide))
    have HBW:=Aside0.mk hbw
    have HPR:=Aside0.mk hpr
    have HPO:=Aside0.mk hpo
    obtain⟨o0',o1',g0',g1'⟩:=pg_cells hpo
    obtain⟨x0,x1,y0,y1⟩:=pg_cells hpr
    obtain⟨g,cg,hgv,_,_⟩:=HROW.out.form (by omega)
    injection hgv with hgv1 hgv2 hgv3
    subst hgv1
    have t4:=tag_of hpo
    have t5:=tag_of hpr
    clear hp2 hb2 hfr hbw hpr hpo hbr2 t1 hgv2 hgv3
    obtain⟨_,cg2,hgc⟩:=ow_block HROW.out (show (Value.slice (some ⟨g,0,none⟩) l c2).ownBlock=some g from rfl)
    have hgo:g≠bo:=fun e=>by
      have h1:=HPO.out
      rw[←e,hgc] at h1
      injection h1 with h1;injection h1 with _ h1
      exact absurd h1 (by decide)
    have hgr:g≠w.heap.size+1:=fun e=>by
      have h1:=HPR.out
      rw[←e,hgc] at h1
      injection h1 with h1;injection h1 with _ h1
      exact absurd h1 (by decide)
    have hog:bo≠g:=fun e=>hgo e.symm
    have hrg:w.heap.size+1≠g:=fun e=>hgr e.symm
    have hge:=(ow_block HROW.out (show (Value.slice (some ⟨g,0,none⟩) l c2).ownBlock=some g from rfl)).1
    have hbe:w.heap.size≤bo:=by have:=HBO.out;have:=HB.out.size;omega
    have hfz:wx.frozen? ⟨g,k*2+1,none⟩=false:=by simp[World.frozen?,hgc]
    obtain⟨ff,hff⟩:=HNF.out
    have HFF:=Aside0.mk hff
    have hcz:wx.cell? ⟨g,k*2+1,none⟩=some (.int .i64 ff):=by
      rw[HROW.out.cellAt _ (by omega)]
      exact (cells2_at es k _ hff).2
    have hkl2:(k:Int)<(l:Int):=by omega
    have hk0:(0:Int)≤(k:Int):=by omega
    have hne4:w.heap.size+1≠bo:=fun e=>hne e.symm
    obtain⟨ho,hgg⟩:=own_setCells [.int .i64 x] (k*2+1) wx _ HROW.out
    have HO4:=Aside0.mk (show (wx.setCell ⟨g,k*2+1,none⟩ (.int .i64 x)).ownsRow w.heap.size 169 2 (.slice (some ⟨g,0,none⟩) l c2) l (setL (cells2 es) (k*2+1) [.int .i64 x]) from ho)
    have t6:tag (wx.setCell ⟨g,k*2+1,none⟩ (.int .i64 x)) bo=74:=by rw[tag_eq (Below.heap_setCell _ _ _ _ hog)];exact t4
    have t7:tag (wx.setCell ⟨g,k*2+1,none⟩ (.int .i64 x)) (w.heap.size+1)=74:=by rw[tag_eq (Below.heap_setCell _ _ _ _ hrg)];exact t5
    have HB4:=Aside0.mk (show Below w.heap.size w (wx.setCell ⟨g,k*2+1,none⟩ (.int .i64 x)) from HBW.out.setCell hge _)
    clear hgc ho hgg hff t4 t5
    go_wp2_with fail
    refine bodyPost_ret (v:=.tuple #[.agg #[.int .i64 lsn,.slice (some ⟨g,0,none⟩) l c2],.bool true]) ?_ ?_ ?_
    case refine_2=>rfl
    case refine_3=>
      refine⟨.slice (some ⟨g,0,none⟩) l c2,rfl,⟨?_,?_⟩,?_⟩
      · rw[HLN.out,HA.out,cells2_set es k n x ff HFF.out]
        refine ow_frm (T:=[74]) (M:=fun _=>True) (ow_base HO4.out (Nat.zero_le _)) ?_ (by decide)
        repeat (first | exact Frm.refl _ _ _ | apply Frm.alloc | apply Frm.drew | refine Frm.set ?_ (fun _=>⟨trivial,by first | (rw[t6];exact List.mem_cons_self) | (rw[t7];exact List.mem_cons_self)⟩) _)
      · rw[HLN.out];omega
      · repeat (first | exact HB4.out | apply below_drew1 | apply below_alloc | refine Below.setCell ?_ (by first | exact hbe | exact hge | (show w.heap.size≤w.heap.size+1;omega)) _)
    simp[results,Tryz.results187,go_sem,x0,x1,y0,y1,o0',o1',hne,hne4,hgo,hgr,hog,hrg]
end Go.Proofs.YtaplpeoikebedaaGreatDoor.PageV
namespace Go.Proofs.YtaplpeoikebedaaGreatDoor.PageW
open Go.RowKit YtaplpeoikebedaaGreatDoorW.PrintWords YtaplpeoikebedaaGreatDoorW.PrintLast YtaplpeoikebedaaGreatDoorW.PrintMore
open See Mem Clone Go.Proofs.YtaplpeoikebedaaGreatDoor.Cell Page PageB PageR PageL Dirty Dirty2 SysD Rw Del Ins2 StoreD PageM PageO PageV
attribute [local go_sem] max2_imax min2_imin max_two min_two
theorem eput_new (lsn:Int)(v:Value)(es:List (Int×Int))(n x:Int)(w:World)(hp:P2 w 169 v es)(hr:Rising es)(hh:has es n=false)(h20:es.length<20) :
    Calls Tryz.prog 187 #[.agg #[.int .i64 lsn,v],.int .i64 n,.int .i64 x] w fun e w' => ∃v',e = .returned (.tuple #[.agg #[.int .i64 lsn,v'],.bool true])∧P2 w' 169 v' (putE es n x)∧Below w.heap.size w w':=by
  have HP:=Aside0.mk hp
  have HR:=Aside0.mk hr
  have HFIND:=Aside0.mk (fun (W:World) (hb:Below w.heap.size w W)=>efind_calls lsn v es n W (hp.below hb) hr)
  obtain⟨A,cap,hv,_⟩:=ow_slice hp.1
  obtain⟨l,hl⟩ : ∃l,es.length=l:=⟨_,rfl⟩
  have HL:=Aside0.mk hl
  have hl5:l≤100000:=by rw[←hl];exact hp.2
  rw[hl] at hv
  have hl':=hl
  clear hp hr hl
  subst hv
  obtain⟨k,hk⟩ : ∃k:Nat,pos es n=k:=⟨_,rfl⟩
  have HK:=Aside0.mk hk
  have HA:=Aside0.mk (putE_not (v:=x) hk hh).1
  have hkl:k≤l:=by rw[←hl'];exact (putE_not (v:=x) hk hh).2
  have HLN:=Aside0.mk (show (putE es n x).length=l+1 by rw[HA.out,List.length_append,List.length_cons,List.length_take,List.length_drop,hl'];omega)
  have hl20:l<20:=by rw[←hl'];exact h20
  have hd20:decide ((20:Int)≤(l:Int))=false:=decide_eq_false (by omega)
  have HFD':=Aside0.mk (fun (W:World) (hb:Below w.heap.size w W)=>by have h:=HFIND.out W hb;rw[hh,hk] at h;exact h)
  clear hh hk HFIND
  go_enter Tryz.func187,Tryz.ntmps187
  go_wp2_with fail
  refine (HFD'.out _ (by repeat (first | exact Below.refl _ _ | apply below_drew1 | apply below_alloc))).mono ?_
  rintro e w1 ⟨rfl,hb⟩
  have HB:=Aside0.mk (below_step (show Below w.heap.size w ((w.alloc (.cells #[.int .i64 lsn,.slice A l cap] 74)).alloc (.cells #[.int .i64 0,.slice none 0 0] 74)) by repeat (first | exact Below.refl _ _ | apply below_alloc)) hb)
  have HBX:=Aside0.mk (show w1.heap[w.heap.size]? = some (.cells #[.int .i64 lsn,.slice A l cap] 74 (0,0)) from (hb.block w.heap.size (by show w.heap.size<((w.heap.push _).push _).size;rw[Array.size_push,Array.size_push];omega)).trans ((Below.heap_alloc _ _ _ (by show w.heap.size<(w.heap.push _).size;rw[Array.size_push];omega)).trans (heap_alloc_new w _)))
  have HBR:=Aside0.mk (show w1.heap[w.heap.size+1]? = some (.cells #[.int .i64 0,.slice none 0 0] 74 (0,0)) from (hb.block (w.heap.size+1) (by simp)).trans (by have:=heap_alloc_new (w.alloc (.cells #[.int .i64 lsn,.slice A l cap] 74)) (.cells #[.int .i64 0,.slice none 0 0] 74);simpa using this))
  obtain⟨q0,q1,f0,f1⟩:=pg_cells HBX.out
  have hz1:w.heap.size<w1.heap.size:=heap_lt HBX.out
  clear hb
  go_wp2_with fail
  have HCL1:=Aside0.mk (fun (W:World) (hb:Below w1.heap.size w1 W)=>clone_p2 HP.out HB.out hb)
  have HCL2:=Aside0.mk (fun (W:World) (hb:Below w1.heap.size w1 W) (hy:W.heap[w1.heap.size]? = some (.cells #[.int .i64 0,.slice none 0 0] 74 (0,0)))=>clone_p2_keep HP.out HB.out hb hy)
  rw[HL.out] at HCL1 HCL2
  go_region_law (first
    | (go_simp;go_at_call 146;refine (HCL2.out _ (by repeat (first | exact Below.refl _ _ | apply below_drew1 | apply below_alloc)) (by exact heap_alloc_new w1 _)).mono ?_;rintro e w2 ⟨A2,c2,rfl,hp2,hb2,hbo⟩;obtain⟨o0,o1,g0,g1⟩:=pg_cells hbo;obtain⟨k0,k1,l0,l1⟩:=pg_cells ((hb2.block _ hz1).trans HBX.out);have hlt2:=heap_lt hbo;have hlt3:=Nat.lt_of_lt_of_le hz1 hb2.size)
    | (go_simp;go_at_call 146;refine (HCL1.out _ (by repeat (first | exact Below.refl _ _ | apply below_drew1 | apply below_alloc))).mono ?_;rintro e w2 ⟨A2,c2,rfl,hp2,hb2⟩;obtain⟨k0,k1,l0,l1⟩:=pg_cells ((hb2.block _ hz1).trans HBX.out);have hlt2:=Nat.lt_of_lt_of_le hz1 hb2.size))
  all_goals
    have t1:tag w2 (w.heap.size+1)=74:=tag_of ((hb2.block _ (heap_lt HBR.out)).trans HBR.out)
    have hbr2:=(hb2.block _ (heap_lt HBR.out)).trans HBR.out
    have hrl:=heap_lt HBR.out
    have hrl2:=Nat.lt_of_lt_of_le hrl hb2.size
    have HBB:=Aside0.mk (below_step HB.out hb2)
    clear k0 k1 l0 l1 q0 q1 f0 f1
    first
      | (obtain⟨wx,bo,HW,HBO⟩ : ∃(wx:World) (bo:Nat),Aside0 (wx=(w2.setCell ⟨w1.heap.size,0,none⟩ (.int .i64 lsn)).setCell ⟨w1.heap.size,1,none⟩ (.slice A2 l c2))∧Aside0 (bo=w1.heap.size):=⟨_,_,⟨rfl⟩,⟨rfl⟩⟩
         have hpo:wx.heap[bo]? = some (.cells #[.int .i64 lsn,.slice A2 l c2] 74 (0,0)):=by rw[HW.out,HBO.out];exact heap_setCell_same _ _ _ _ _ _ (heap_setCell_same _ _ _ _ _ _ hbo)
         have hne:bo≠w.heap.size+1:=by have:=HBO.out;omega
         have hpr:wx.heap[w.heap.size+1]? = some (.cells #[.int .i64 0,.slice none 0 0] 74 (0,0)):=by rw[HW.out,Below.heap_setCell _ _ _ _ (by have:=HBO.out;show w.heap.size+1≠w1.heap.size;omega),Below.heap_setCell _ _ _ _ (by have:=HBO.out;show w.heap.size+1≠w1.heap.size;omega)];exact hbr2
         have hfr:Frm [74] (fun _=>True) w2 wx:=by rw[HW.out];exact ((Frm.refl _ _ w2).set (fun _=>⟨trivial,by rw[tag_of hbo];exact List.mem_cons_self⟩) _).set (fun _=>⟨trivial,by rw[tag_of hbo];exact List.mem_cons_self⟩) _
         have hbw:Below w.heap.size w wx:=by rw[HW.out];exact (HBB.out.setCell (by show w.heap.size≤w1.heap.size;omega) _).setCell (by show w.heap.size≤w1.heap.size;omega) _
         rw[←HW.out,←HBO.out])
      | (obtain⟨wx,bo,HW,HBO⟩ : ∃(wx:World) (bo:Nat),Aside0 (wx=w2.alloc (.cells #[.int .i64 lsn,.slice A2 l c2] 74))∧Aside0 (bo=w2.heap.size):=⟨_,_,⟨rfl⟩,⟨rfl⟩⟩
         have hpo:wx.heap[bo]? = some (.cells #[.int .i64 lsn,.slice A2 l c2] 74 (0,0)):=by rw[HW.out,HBO.out];exact heap_alloc_new _ _
         have hne:bo≠w.heap.size+1:=by have:=HBO.out;omega
         have hpr:wx.heap[w.heap.size+1]? = some (.cells #[.int .i64 0,.slice none 0 0] 74 (0,0)):=by rw[HW.out];exact (Below.heap_alloc _ _ _ hrl2).trans hbr2
         have hfr:Frm [74] (fun _=>True) w2 wx:=by rw[HW.out];exact (Frm.refl _ _ w2).alloc _
         have hbw:Below w.heap.size w wx:=by rw[HW.out];exact below_alloc HBB.out _
         rw[←HW.out,←HBO.out])
  all_goals
    have HROW:=Aside0.mk (ow_frm (T:=[74]) (ow_base hp2 (Nat.le_trans HB.out.size (Nat.le_refl _))) hfr (by decide))
    have HBW:=Aside0.mk hbw
    have HPR:=Aside0.mk hpr
    have HPO:=Aside0.mk hpo
    obtain⟨o0',o1',g0',g1'⟩:=pg_cells hpo
    have hpx:wx.heap[w.heap.size]? = some (.cells #[.int .i64 lsn,.slice A l cap] 74 (0,0)):=by
      have h1:=(hb2.block _ hz1).trans HBX.out
      first
        | (rw[HW.out,Below.heap_setCell _ _ _ _ (by show w.heap.size≠w1.heap.size;omega),Below.heap_setCell _ _ _ _ (by show w.heap.size≠w1.heap.size;omega)];exact h1)
        | (rw[HW.out];exact (Below.heap_alloc _ _ _ (heap_lt h1)).trans h1)
    obtain⟨z0,z1,_,_⟩:=pg_cells hpx
    have hown_ne : ∀j,(Value.slice A2 l c2).ownBlock=some j→w.heap.size≤j∧j≠bo∧j≠w.heap.size+1∧j<wx.heap.size:=fun j hj=>by
      obtain⟨h1,_,hgc⟩:=ow_block HROW.out hj
      refine⟨h1,fun e => ?_,fun e => ?_,heap_lt hgc⟩
      · have h2:=HPO.out
        rw[←e,hgc] at h2
        injection h2 with h2;injection h2 with _ h2
        exact absurd h2 (by decide)
      · have h2:=HPR.out
        rw[←e,hgc] at h2
        injection h2 with h2;injection h2 with _ h2
        exact absurd h2 (by decide)
    have HON:=Aside0.mk hown_ne
    have hbe:w.heap.size≤bo:=by have:=HBO.out;have:=HB.out.size;omega
    have HNE:=Aside0.mk hne
    clear hp2 hb2 hfr hbw hpr hpo hbr2 t1 hown_ne hne hpx
    go_wp2_with fail
    refine (ins_entries w.heap.size l k wx.heap.size (.slice A2 l c2) (cells2 es) [.int .i64 n,.int .i64 x] _ (ow_below HROW.out (below_alloc (Below.refl _ _) _)) (cells2_one es) hl5 hkl (heap_alloc_new wx _) (fun e=>by have:=(HON.out _ e).2.2.2;omega) rfl (by intro u hu;simp at hu;rcases hu with rfl | rfl<;>rfl) (by have:=HBW.out.size;show w.heap.size≤(wx.heap.push _).size;rw[Array.size_push];omega)).mono ?_
    rintro e2 w4 ⟨v4,rfl,ho,hg,hat⟩
    obtain⟨A4,c4,rfl,_⟩:=ow_slice ho
    have hbl:bo<wx.heap.size:=heap_lt HPO.out
    have hbr:w.heap.size+1<wx.heap.size:=heap_lt HPR.out
    have hpo4:=(hg.block bo (by show bo<(wx.heap.push _).size;rw[Array.size_push];omega) (fun e=>(HON.out bo e.symm).2.1 rfl)).trans ((Below.heap_alloc _ _ _ hbl).trans HPO.out)
    have hpr4:=(hg.block (w.heap.size+1) (by show w.heap.size+1<(wx.heap.push _).size;rw[Array.size_push];omega) (fun e=>(HON.out _ e.symm).2.2.1 rfl)).trans ((Below.heap_alloc _ _ _ hbr).trans HPR.out)
    obtain⟨u0,u1,v0,v1⟩:=pg_cells hpo4
    obtain⟨x0,x1,y0,y1⟩:=pg_cells hpr4
    have HO4:=Aside0.mk ho
    have HB4:=Aside0.mk (show Below w.heap.size w w4 from (below_alloc HBW.out _).grown hg (by have:=HBW.out.size;show w.heap.size≤(wx.heap.push _).size;rw[Array.size_push];omega) (fun j hj=>(HON.out j hj).1))
    have t4:=tag_of hpo4
    have t5:=tag_of hpr4
    have hne3:=HNE.out
    have hne4:w.heap.size+1≠bo:=fun e=>HNE.out e.symm
    clear ho hg hat hpo4 hpr4 o0' o1' g0' g1' z0 z1
    go_wp2_with fail
    refine bodyPost_ret (v:=.tuple #[.agg #[.int .i64 lsn,.slice A4 (l+1) c4],.bool true]) ?_ ?_ ?_
    case refine_2=>rfl
    case refine_3=>
      refine⟨.slice A4 (l+1) c4,rfl,⟨?_,?_⟩,?_⟩
      · rw[HLN.out,HA.out,cells2_insert]
        refine ow_frm (T:=[74]) (M:=fun _=>True) (ow_base HO4.out (Nat.zero_le _)) ?_ (by decide)
        repeat (first | exact Frm.refl _ _ _ | apply Frm.alloc | apply Frm.drew | refine Frm.set ?_ (fun _=>⟨trivial,by first | (rw[t4];exact List.mem_cons_self) | (rw[t5];exact List.mem_cons_self)⟩) _)
      · rw[HLN.out];omega
      · repeat (first | exact HB4.out | apply below_drew1 | apply below_alloc | refine Below.setCell ?_ (by first | exact hbe | (show w.heap.size≤w.heap.size+1;omega)) _)
    simp[results,Tryz.results187,go_sem,x0,x1,y0,y1,u0,u1,hne3,hne4]
end Go.Proofs.YtaplpeoikebedaaGreatDoor.PageW
namespace Go.Proofs.YtaplpeoikebedaaGreatDoor.ChangeT
open Go.RowKit YtaplpeoikebedaaGreatDoorW.PrintWords YtaplpeoikebedaaGreatDoorW.PrintLast YtaplpeoikebedaaGreatDoorW.PrintMore
open See Mem Clone Go.Proofs.YtaplpeoikebedaaGreatDoor.Cell Page PageB PageR PageL Dirty Dirty2 SysD RecD Rec Wal Rw Del StoreD PageM PageO PageQ PageV PageW
attribute [local go_sem] max2_imax min2_imin max_two min_two
theorem eput_calls (lsn:Int)(v:Value)(es:List (Int×Int))(n x:Int)(w:World)(hp:P2 w 169 v es)(hr:Rising es)(hh:has es n=true∨es.length<20) :
    Calls Tryz.prog 187 #[.agg #[.int .i64 lsn,v],.int .i64 n,.int .i64 x] w fun e w' => ∃v',e = .returned (.tuple #[.agg #[.int .i64 lsn,v'],.bool true])∧P2 w' 169 v' (putE es n x)∧Below w.heap.size w w':=by
  by_cases h:has es n=true
  · exact eput_has lsn v es n x w hp hr h
  · exact eput_new lsn v es n x w hp hr (Bool.eq_false_iff.2 h) (hh.resolve_left h)
theorem rec_cells {w:World}{b:Nat}{r:RecV}(h:w.heap[b]? = some (.cells (recA r) 46 (0,0))):w.cell? ⟨b,0,none⟩=some (.int .i64 r.kind)∧w.cell? ⟨b,1,none⟩=some (.int .i64 r.txn)∧w.cell? ⟨b,2,none⟩=some (.int .i64 r.page)∧w.cell? ⟨b,3,none⟩=some (.int .i64 r.prev)∧w.cell? ⟨b,4,none⟩=some (.int .i64 r.next)∧w.cell? ⟨b,5,none⟩=some (.int .i64 r.key)∧w.cell? ⟨b,6,none⟩=some (.bool r.had)∧w.cell? ⟨b,7,none⟩=some (.bool r.has)∧w.cell? ⟨b,8,none⟩=some (.int .i64 r.old)∧w.cell? ⟨b,9,none⟩=some (.int .i64 r.new):=by
  refine⟨?_,?_,?_,?_,?_,?_,?_,?_,?_,?_⟩<;>simp[World.cell?,h,recA]
theorem alloc_at (w:World)(o:Obj){b:Nat}(h:w.heap.size=b):(w.alloc o).heap[b]? = some o:=by subst h;exact heap_alloc_new _ _
theorem redo_calls (l0 lsn:Int)(v:Value)(es:List (Int×Int))(r:RecV)(w:World)(hp:P2 w 169 v es)(hr:Rising es)(hk:r.kind=2∨r.kind=3)(hl:l0<lsn)(hroom:r.has=true→has es r.key=true∨es.length<20) :
    Calls Tryz.prog 128 #[.agg #[.int .i64 l0,v],.int .i64 lsn,recV r] w fun e w' => ∃v',e = .returned (.tuple #[.agg #[.int .i64 lsn,v'],.bool true,.nilIface])∧P2 w' 169 v' (redoE es r)∧Below w.heap.size w w':=by
  have HP:=Aside0.mk hp
  have HR:=Aside0.mk hr
  have HROOM:=Aside0.mk hroom
  have HRE:=Aside0.mk (show redoE es r=if r.has then putE es r.key r.new else dropT es r.key from rfl)
  obtain⟨A,cap,hv,_⟩:=ow_slice hp.1
  obtain⟨l,hll⟩ : ∃l,es.length=l:=⟨_,rfl⟩
  have HL:=Aside0.mk hll
  rw[hll] at hv
  have HRC:=Aside0.mk (fun (W:World) (b:Nat) (h:W.heap[b]? = some (.cells (recA r) 46 (0,0)))=>rec_cells h)
  obtain⟨kd,tx,pg,pv,nx,key,had,has_,old,new⟩:=r
  simp only at hk HROOM HRE HRC
  clear hp hr hll hroom
  subst hv
  have hge:decide (lsn≤l0)=false:=decide_eq_false (by omega)
  simp only[recV,recA]
  rcases hk with rfl | rfl
  all_goals
    go_enter Tryz.func128,Tryz.ntmps128
    go_wp2_with fail
    refine (eremove_calls l0 _ es key _ (HP.out.below (by repeat (first | exact Below.refl _ _ | apply below_alloc))) HR.out).mono ?_
    rintro e w1 ⟨v1,rfl,hp1,hb1⟩
    have hz3:w.heap.size+1+1+1≤w1.heap.size:=by
      have:=hb1.size
      simp only[World.alloc,Array.size_push] at this
      omega
    have hA1:=(hb1.block w.heap.size (by show _<(((w.heap.push _).push _).push _).size;simp only[Array.size_push];omega)).trans ((Below.heap_alloc _ _ _ (by show _<((w.heap.push _).push _).size;simp only[Array.size_push];omega)).trans ((Below.heap_alloc _ _ _ (by show _<(w.heap.push _).size;simp only[Array.size_push];omega)).trans (heap_alloc_new w (.cells #[.int .i64 l0,.slice A l cap] 74))))
    have hB1:=(hb1.block (w.heap.size+1) (by show _<(((w.heap.push _).push _).push _).size;simp only[Array.size_push];omega)).trans ((Below.heap_alloc _ _ _ (by show _<((w.heap.push _).push _).size;simp only[Array.size_push];omega)).trans (alloc_at _ _ (show (w.alloc _).heap.size=w.heap.size+1 from by show (w.heap.push _).size=_;rw[Array.size_push])))
    have hC1:=(hb1.block (w.heap.size+1+1) (by show _<(((w.heap.push _).push _).push _).size;simp only[Array.size_push];omega)).trans (alloc_at _ _ (show ((w.alloc _).alloc _).heap.size=w.heap.size+1+1 from by show ((w.heap.push _).push _).size=_;simp only[Array.size_push]))
    obtain⟨a0,a1,_,_⟩:=pg_cells hA1
    obtain⟨_,_,_,_,_,b5,_,b7,_,b9⟩:=HRC.out _ _ hB1
    have HA1:=Aside0.mk hA1
    have HB1:=Aside0.mk hB1
    have HC1:=Aside0.mk hC1
    have HBB:=Aside0.mk (below_step (show Below w.heap.size w _ by repeat (first | exact Below.refl _ _ | apply below_alloc)) hb1)
    have HP1:=Aside0.mk hp1
    obtain⟨A1,c1,rfl,_⟩:=ow_slice hp1.1
    obtain⟨l1,hl1⟩ : ∃l1,(dropT es key).length=l1:=⟨_,rfl⟩
    have HL1:=Aside0.mk hl1
    rw[hl1] at HP1 ⊢
    obtain⟨d0,d1,e0,e1⟩:=pg_cells hC1
    have t6:=tag_of hC1
    have hx0:w.heap.size<w1.heap.size:=by omega
    have hx1:w.heap.size+1<w1.heap.size:=by omega
    have hx2:w.heap.size+1+1<w1.heap.size:=by omega
    have hy2:w1.heap.size≠w.heap.size+1+1:=by omega
    have hy3:w.heap.size+1+1≠w1.heap.size:=by omega
    clear hA1 hB1 hC1 hb1 hp1 hl1
    cases has_ with
    | false=>
      go_wp2_with fail
      refine bodyPost_ret (v:=.tuple #[.agg #[.int .i64 lsn,.slice A1 l1 c1],.bool true,.nilIface]) ?_ ?_ ?_
      case refine_2=>rfl
      case refine_3=>
        refine⟨.slice A1 l1 c1,rfl,?_,?_⟩
        · rw[HRE.out]
          simp only[Bool.false_eq_true,if_false]
          refine P2.frm (T:=[74]) (M:=fun _=>True) HP1.out ?_ (by decide)
          repeat (first | exact Frm.refl _ _ _ | apply Frm.alloc | apply Frm.drew | refine Frm.set ?_ (fun hh=>⟨trivial,by first | (rw[t6];exact List.mem_cons_self) | (exfalso;simp at hh)⟩) _)
        · repeat (first | exact HBB.out | apply below_drew1 | apply below_alloc | refine Below.setCell ?_ (by first | (show w.heap.size≤w.heap.size+1+1;omega) | (show w.heap.size≤w1.heap.size;omega)) _)
      simp[results,Tryz.results128,go_sem,d0,d1,hx2,hy2,hy3]
    | true=>
      go_wp2_with fail
      refine (eput_calls l0 _ es key new _ (HP.out.below (below_alloc HBB.out _)) HR.out (by first | exact HROOM.out rfl | exact HROOM.out trivial)).mono ?_
      rintro e w2 ⟨v2,rfl,hp2,hb2⟩
      have h19:=(hb2.block w1.heap.size (by show _<(w1.heap.push _).size;rw[Array.size_push];omega)).trans (heap_alloc_new w1 (.cells #[.int .i64 l0,.slice A1 l1 c1] 74))
      have h1O:=(hb2.block (w.heap.size+1+1) (by show _<(w1.heap.push _).size;rw[Array.size_push];omega)).trans ((Below.heap_alloc _ _ _ hx2).trans HC1.out)
      obtain⟨s0,s1,s2,s3⟩:=pg_cells h19
      obtain⟨u0,u1,u2,u3⟩:=pg_cells h1O
      have t7:=tag_of h19
      have t8:=tag_of h1O
      have HBB2:=Aside0.mk (below_step (below_alloc HBB.out _) hb2)
      have HP2:=Aside0.mk hp2
      obtain⟨A2,c2,rfl,_⟩:=ow_slice hp2.1
      obtain⟨l2,hl2⟩ : ∃l2,(putE es key new).length=l2:=⟨_,rfl⟩
      have HL2:=Aside0.mk hl2
      rw[hl2] at HP2 ⊢
      clear h19 h1O hb2 hp2 hl2 a0 a1 b5 b7 b9 d0 d1 e0 e1
      go_wp2_with fail
      refine bodyPost_ret (v:=.tuple #[.agg #[.int .i64 lsn,.slice A2 l2 c2],.bool true,.nilIface]) ?_ ?_ ?_
      case refine_2=>rfl
      case refine_3=>
        refine⟨.slice A2 l2 c2,rfl,?_,?_⟩
        · rw[HRE.out]
          simp only[if_true]
          refine P2.frm (T:=[74]) (M:=fun _=>True) HP2.out ?_ (by decide)
          repeat (first | exact Frm.refl _ _ _ | apply Frm.alloc | apply Frm.drew | refine Frm.set ?_ (fun hh=>⟨trivial,by first | (rw[t7];exact List.mem_cons_self) | (rw[t8];exact List.mem_cons_self)⟩) _)
        · repeat (first | exact HBB2.out | apply below_drew1 | apply below_alloc | refine Below.setCell ?_ (by first | (show w.heap.size≤w.heap.size+1+1;omega) | (show w.heap.size≤w1.heap.size;omega)) _)
      simp[results,Tryz.results128,go_sem,s0,s1,u0,u1,hx2,hy2,hy3]
end Go.Proofs.YtaplpeoikebedaaGreatDoor.ChangeT
