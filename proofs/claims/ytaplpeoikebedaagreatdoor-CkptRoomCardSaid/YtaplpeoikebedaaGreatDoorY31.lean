/- Joined texts: PageW, ChangeT, FwdS. No condition but what each says. -/
import Derived.Test.YtaplpeoikebedaaGreatDoorY30
import Derived.Deep.RegionLaw
import Derived.Test.YtaplpeoikebedaaGreatDoorY11
import Derived.Test.YtaplpeoikebedaaGreatDoorY29
import Derived.Test.YtaplpeoikebedaaGreatDoorY18
import Derived.Deep.RegionHeld3
set_option maxHeartbeats 8000000
set_option maxRecDepth 100000
set_option linter.unusedVariables false
set_option linter.unusedSimpArgs false
namespace Go.Proofs.YtaplpeoikebedaaGreatDoor.PageW
open Go.RowKit YtaplpeoikebedaaGreatDoorW.PrintWords YtaplpeoikebedaaGreatDoorW.PrintLast YtaplpeoikebedaaGreatDoorW.PrintMore
open See Mem Clone Go.Proofs.YtaplpeoikebedaaGreatDoor.Cell Page PageB PageR PageL Dirty Dirty2 SysD Rw Del Ins2 StoreD PageM PageO PageV
attribute [local go_sem] max2_imax min2_imin max_two min_two
theorem eput_new (lsn:Int)(v:Value)(es:List (Int×Int))(n x:Int)(w:World)(hp:P2 w 169 v es)(hr:Rising es)(hh:has es n=false)(h20:es.length<20) :
    Calls Tryz.prog 187 #[.agg #[.int .i64 lsn,v],.int .i64 n,.int .i64 x] w fun e w' => ∃v',e = .returned (.tuple #[.agg #[.int .i64 lsn,v'],.bool true])∧P2 w' 169 v' (putE es n x)∧Below w.heap.size w w':=by
  have HP:=Aside0.mk hp
  have HR:=Aside0.mk hr
  have HFIND:=Aside0.mk (fun (W:World) (hb:Below w.heap.size w W)=>efind_calls lsn v es n W (hp.below hb) hr)
  obtain⟨A,cap,hv,_⟩:=ow_slice hp.1
  obtain⟨l,hl⟩ : ∃l,es.length=l:=⟨_,rfl⟩
  have HL:=Aside0.mk hl
  have hl5:l≤100000:=by rw[←hl];exact hp.2
  rw[hl] at hv
  have hl':=hl
  clear hp hr hl
  subst hv
  obtain⟨k,hk⟩ : ∃k:Nat,pos es n=k:=⟨_,rfl⟩
  have HK:=Aside0.mk hk
  have HA:=Aside0.mk (putE_not (v:=x) hk hh).1
  have hkl:k≤l:=by rw[←hl'];exact (putE_not (v:=x) hk hh).2
  have HLN:=Aside0.mk (show (putE es n x).length=l+1 by rw[HA.out,List.length_append,List.length_cons,List.length_take,List.length_drop,hl'];omega)
  have hl20:l<20:=by rw[←hl'];exact h20
  have hd20:decide ((20:Int)≤(l:Int))=false:=decide_eq_false (by omega)
  have HFD':=Aside0.mk (fun (W:World) (hb:Below w.heap.size w W)=>by have h:=HFIND.out W hb;rw[hh,hk] at h;exact h)
  clear hh hk HFIND
  go_enter Tryz.func187,Tryz.ntmps187
  go_wp2_with fail
  refine (HFD'.out _ (by repeat (first | exact Below.refl _ _ | apply below_drew1 | apply below_alloc))).mono ?_
  rintro e w1 ⟨rfl,hb⟩
  have HB:=Aside0.mk (below_step (show Below w.heap.size w ((w.alloc (.cells #[.int .i64 lsn,.slice A l cap] 74)).alloc (.cells #[.int .i64 0,.slice none 0 0] 74)) by repeat (first | exact Below.refl _ _ | apply below_alloc)) hb)
  have HBX:=Aside0.mk (show w1.heap[w.heap.size]? = some (.cells #[.int .i64 lsn,.slice A l cap] 74 (0,0)) from (hb.block w.heap.size (by show w.heap.size<((w.heap.push _).push _).size;rw[Array.size_push,Array.size_push];omega)).trans ((Below.heap_alloc _ _ _ (by show w.heap.size<(w.heap.push _).size;rw[Array.size_push];omega)).trans (heap_alloc_new w _)))
  have HBR:=Aside0.mk (show w1.heap[w.heap.size+1]? = some (.cells #[.int .i64 0,.slice none 0 0] 74 (0,0)) from (hb.block (w.heap.size+1) (by simp)).trans (by have:=heap_alloc_new (w.alloc (.cells #[.int .i64 lsn,.slice A l cap] 74)) (.cells #[.int .i64 0,.slice none 0 0] 74);simpa using this))
  obtain⟨q0,q1,f0,f1⟩:=pg_cells HBX.out
  have hz1:w.heap.size<w1.heap.size:=heap_lt HBX.out
  clear hb
  go_wp2_with fail
  have HCL1:=Aside0.mk (fun (W:World) (hb:Below w1.heap.size w1 W)=>clone_p2 HP.out HB.out hb)
  have HCL2:=Aside0.mk (fun (W:World) (hb:Below w1.heap.size w1 W) (hy:W.heap[w1.heap.size]? = some (.cells #[.int .i64 0,.slice none 0 0] 74 (0,0)))=>clone_p2_keep HP.out HB.out hb hy)
  rw[HL.out] at HCL1 HCL2
  go_region_law (first
    | (go_simp;go_at_call 146;refine (HCL2.out _ (by repeat (first | exact Below.refl _ _ | apply below_drew1 | apply below_alloc)) (by exact heap_alloc_new w1 _)).mono ?_;rintro e w2 ⟨A2,c2,rfl,hp2,hb2,hbo⟩;obtain⟨o0,o1,g0,g1⟩:=pg_cells hbo;obtain⟨k0,k1,l0,l1⟩:=pg_cells ((hb2.block _ hz1).trans HBX.out);have hlt2:=heap_lt hbo;have hlt3:=Nat.lt_of_lt_of_le hz1 hb2.size)
    | (go_simp;go_at_call 146;refine (HCL1.out _ (by repeat (first | exact Below.refl _ _ | apply below_drew1 | apply below_alloc))).mono ?_;rintro e w2 ⟨A2,c2,rfl,hp2,hb2⟩;obtain⟨k0,k1,l0,l1⟩:=pg_cells ((hb2.block _ hz1).trans HBX.out);have hlt2:=Nat.lt_of_lt_of_le hz1 hb2.size))
  all_goals
    have t1:tag w2 (w.heap.size+1)=74:=tag_of ((hb2.block _ (heap_lt HBR.out)).trans HBR.out)
    have hbr2:=(hb2.block _ (heap_lt HBR.out)).trans HBR.out
    have hrl:=heap_lt HBR.out
    have hrl2:=Nat.lt_of_lt_of_le hrl hb2.size
    have HBB:=Aside0.mk (below_step HB.out hb2)
    clear k0 k1 l0 l1 q0 q1 f0 f1
    first
      | (obtain⟨wx,bo,HW,HBO⟩ : ∃(wx:World) (bo:Nat),Aside0 (wx=(w2.setCell ⟨w1.heap.size,0,none⟩ (.int .i64 lsn)).setCell ⟨w1.heap.size,1,none⟩ (.slice A2 l c2))∧Aside0 (bo=w1.heap.size):=⟨_,_,⟨rfl⟩,⟨rfl⟩⟩
         have hpo:wx.heap[bo]? = some (.cells #[.int .i64 lsn,.slice A2 l c2] 74 (0,0)):=by rw[HW.out,HBO.out];exact heap_setCell_same _ _ _ _ _ _ (heap_setCell_same _ _ _ _ _ _ hbo)
         have hne:bo≠w.heap.size+1:=by have:=HBO.out;omega
         have hpr:wx.heap[w.heap.size+1]? = some (.cells #[.int .i64 0,.slice none 0 0] 74 (0,0)):=by rw[HW.out,Below.heap_setCell _ _ _ _ (by have:=HBO.out;show w.heap.size+1≠w1.heap.size;omega),Below.heap_setCell _ _ _ _ (by have:=HBO.out;show w.heap.size+1≠w1.heap.size;omega)];exact hbr2
         have hfr:Frm [74] (fun _=>True) w2 wx:=by rw[HW.out];exact ((Frm.refl _ _ w2).set (fun _=>⟨trivial,by rw[tag_of hbo];exact List.mem_cons_self⟩) _).set (fun _=>⟨trivial,by rw[tag_of hbo];exact List.mem_cons_self⟩) _
         have hbw:Below w.heap.size w wx:=by rw[HW.out];exact (HBB.out.setCell (by show w.heap.size≤w1.heap.size;omega) _).setCell (by show w.heap.size≤w1.heap.size;omega) _
         rw[←HW.out,←HBO.out])
      | (obtain⟨wx,bo,HW,HBO⟩ : ∃(wx:World) (bo:Nat),Aside0 (wx=w2.alloc (.cells #[.int .i64 lsn,.slice A2 l c2] 74))∧Aside0 (bo=w2.heap.size):=⟨_,_,⟨rfl⟩,⟨rfl⟩⟩
         have hpo:wx.heap[bo]? = some (.cells #[.int .i64 lsn,.slice A2 l c2] 74 (0,0)):=by rw[HW.out,HBO.out];exact heap_alloc_new _ _
         have hne:bo≠w.heap.size+1:=by have:=HBO.out;omega
         have hpr:wx.heap[w.heap.size+1]? = some (.cells #[.int .i64 0,.slice none 0 0] 74 (0,0)):=by rw[HW.out];exact (Below.heap_alloc _ _ _ hrl2).trans hbr2
         have hfr:Frm [74] (fun _=>True) w2 wx:=by rw[HW.out];exact (Frm.refl _ _ w2).alloc _
         have hbw:Below w.heap.size w wx:=by rw[HW.out];exact below_alloc HBB.out _
         rw[←HW.out,←HBO.out])
  all_goals
    have HROW:=Aside0.mk (ow_frm (T:=[74]) (ow_base hp2 (Nat.le_trans HB.out.size (Nat.le_refl _))) hfr (by decide))
    have HBW:=Aside0.mk hbw
    have HPR:=Aside0.mk hpr
    have HPO:=Aside0.mk hpo
    obtain⟨o0',o1',g0',g1'⟩:=pg_cells hpo
    have hpx:wx.heap[w.heap.size]? = some (.cells #[.int .i64 lsn,.slice A l cap] 74 (0,0)):=by
      have h1:=(hb2.block _ hz1).trans HBX.out
      first
        | (rw[HW.out,Below.heap_setCell _ _ _ _ (by show w.heap.size≠w1.heap.size;omega),Below.heap_setCell _ _ _ _ (by show w.heap.size≠w1.heap.size;omega)];exact h1)
        | (rw[HW.out];exact (Below.heap_alloc _ _ _ (heap_lt h1)).trans h1)
    obtain⟨z0,z1,_,_⟩:=pg_cells hpx
    have hown_ne : ∀j,(Value.slice A2 l c2).ownBlock=some j→w.heap.size≤j∧j≠bo∧j≠w.heap.size+1∧j<wx.heap.size:=fun j hj=>by
      obtain⟨h1,_,hgc⟩:=ow_block HROW.out hj
      refine⟨h1,fun e => ?_,fun e => ?_,heap_lt hgc⟩
      · have h2:=HPO.out
        rw[←e,hgc] at h2
        injection h2 with h2;injection h2 with _ h2
        exact absurd h2 (by decide)
      · have h2:=HPR.out
        rw[←e,hgc] at h2
        injection h2 with h2;injection h2 with _ h2
        exact absurd h2 (by decide)
    have HON:=Aside0.mk hown_ne
    have hbe:w.heap.size≤bo:=by have:=HBO.out;have:=HB.out.size;omega
    have HNE:=Aside0.mk hne
    clear hp2 hb2 hfr hbw hpr hpo hbr2 t1 hown_ne hne hpx
    go_wp2_with fail
    refine (ins_entries w.heap.size l k wx.heap.size (.slice A2 l c2) (cells2 es) [.int .i64 n,.int .i64 x] _ (ow_below HROW.out (below_alloc (Below.refl _ _) _)) (cells2_one es) hl5 hkl (heap_alloc_new wx _) (fun e=>by have:=(HON.out _ e).2.2.2;omega) rfl (by intro u hu;simp at hu;rcases hu with rfl | rfl<;>rfl) (by have:=HBW.out.size;show w.heap.size≤(wx.heap.push _).size;rw[Array.size_push];omega)).mono ?_
    rintro e2 w4 ⟨v4,rfl,ho,hg,hat⟩
    obtain⟨A4,c4,rfl,_⟩:=ow_slice ho
    have hbl:bo<wx.heap.size:=heap_lt HPO.out
    have hbr:w.heap.size+1<wx.heap.size:=heap_lt HPR.out
    have hpo4:=(hg.block bo (by show bo<(wx.heap.push _).size;rw[Array.size_push];omega) (fun e=>(HON.out bo e.symm).2.1 rfl)).trans ((Below.heap_alloc _ _ _ hbl).trans HPO.out)
    have hpr4:=(hg.block (w.heap.size+1) (by show w.heap.size+1<(wx.heap.push _).size;rw[Array.size_push];omega) (fun e=>(HON.out _ e.symm).2.2.1 rfl)).trans ((Below.heap_alloc _ _ _ hbr).trans HPR.out)
    obtain⟨u0,u1,v0,v1⟩:=pg_cells hpo4
    obtain⟨x0,x1,y0,y1⟩:=pg_cells hpr4
    have HO4:=Aside0.mk ho
    have HB4:=Aside0.mk (show Below w.heap.size w w4 from (below_alloc HBW.out _).grown hg (by have:=HBW.out.size;show w.heap.size≤(wx.heap.push _).size;rw[Array.size_push];omega) (fun j hj=>(HON.out j hj).1))
    have t4:=tag_of hpo4
    have t5:=tag_of hpr4
    have hne3:=HNE.out
    have hne4:w.heap.size+1≠bo:=fun e=>HNE.out e.symm
    clear ho hg hat hpo4 hpr4 o0' o1' g0' g1' z0 z1
    go_wp2_with fail
    refine bodyPost_ret (v:=.tuple #[.agg #[.int .i64 lsn,.slice A4 (l+1) c4],.bool true]) ?_ ?_ ?_
    case refine_2=>rfl
    case refine_3=>
      refine⟨.slice A4 (l+1) c4,rfl,⟨?_,?_⟩,?_⟩
      · rw[HLN.out,HA.out,cells2_insert]
        refine ow_frm (T:=[74]) (M:=fun _=>True) (ow_base HO4.out (Nat.zero_le _)) ?_ (by decide)
        repeat (first | exact Frm.refl _ _ _ | apply Frm.alloc | apply Frm.drew | refine Frm.set ?_ (fun _=>⟨trivial,by first | (rw[t4];exact List.mem_cons_self) | (rw[t5];exact List.mem_cons_self)⟩) _)
      · rw[HLN.out];omega
      · repeat (first | exact HB4.out | apply below_drew1 | apply below_alloc | refine Below.setCell ?_ (by first | exact hbe | (show w.heap.size≤w.heap.size+1;omega)) _)
    simp[results,Tryz.results187,go_sem,x0,x1,y0,y1,u0,u1,hne3,hne4]
end Go.Proofs.YtaplpeoikebedaaGreatDoor.PageW
namespace Go.Proofs.YtaplpeoikebedaaGreatDoor.ChangeT
open Go.RowKit YtaplpeoikebedaaGreatDoorW.PrintWords YtaplpeoikebedaaGreatDoorW.PrintLast YtaplpeoikebedaaGreatDoorW.PrintMore
open See Mem Clone Go.Proofs.YtaplpeoikebedaaGreatDoor.Cell Page PageB PageR PageL Dirty Dirty2 SysD RecD Rec Wal Rw Del StoreD PageM PageO PageQ PageV PageW
attribute [local go_sem] max2_imax min2_imin max_two min_two
theorem eput_calls (lsn:Int)(v:Value)(es:List (Int×Int))(n x:Int)(w:World)(hp:P2 w 169 v es)(hr:Rising es)(hh:has es n=true∨es.length<20) :
    Calls Tryz.prog 187 #[.agg #[.int .i64 lsn,v],.int .i64 n,.int .i64 x] w fun e w' => ∃v',e = .returned (.tuple #[.agg #[.int .i64 lsn,v'],.bool true])∧P2 w' 169 v' (putE es n x)∧Below w.heap.size w w':=by
  by_cases h:has es n=true
  · exact eput_has lsn v es n x w hp hr h
  · exact eput_new lsn v es n x w hp hr (Bool.eq_false_iff.2 h) (hh.resolve_left h)
theorem rec_cells {w:World}{b:Nat}{r:RecV}(h:w.heap[b]? = some (.cells (recA r) 46 (0,0))):w.cell? ⟨b,0,none⟩=some (.int .i64 r.kind)∧w.cell? ⟨b,1,none⟩=some (.int .i64 r.txn)∧w.cell? ⟨b,2,none⟩=some (.int .i64 r.page)∧w.cell? ⟨b,3,none⟩=some (.int .i64 r.prev)∧w.cell? ⟨b,4,none⟩=some (.int .i64 r.next)∧w.cell? ⟨b,5,none⟩=some (.int .i64 r.key)∧w.cell? ⟨b,6,none⟩=some (.bool r.had)∧w.cell? ⟨b,7,none⟩=some (.bool r.has)∧w.cell? ⟨b,8,none⟩=some (.int .i64 r.old)∧w.cell? ⟨b,9,none⟩=some (.int .i64 r.new):=by
  refine⟨?_,?_,?_,?_,?_,?_,?_,?_,?_,?_⟩<;>simp[World.cell?,h,recA]
theorem alloc_at (w:World)(o:Obj){b:Nat}(h:w.heap.size=b):(w.alloc o).heap[b]? = some o:=by subst h;exact heap_alloc_new _ _
theorem redo_calls (l0 lsn:Int)(v:Value)(es:List (Int×Int))(r:RecV)(w:World)(hp:P2 w 169 v es)(hr:Rising es)(hk:r.kind=2∨r.kind=3)(hl:l0<lsn)(hroom:r.has=true→has es r.key=true∨es.length<20) :
    Calls Tryz.prog 128 #[.agg #[.int .i64 l0,v],.int .i64 lsn,recV r] w fun e w' => ∃v',e = .returned (.tuple #[.agg #[.int .i64 lsn,v'],.bool true,.nilIface])∧P2 w' 169 v' (redoE es r)∧Below w.heap.size w w':=by
  have HP:=Aside0.mk hp
  have HR:=Aside0.mk hr
  have HROOM:=Aside0.mk hroom
  have HRE:=Aside0.mk (show redoE es r=if r.has then putE es r.key r.new else dropT es r.key from rfl)
  obtain⟨A,cap,hv,_⟩:=ow_slice hp.1
  obtain⟨l,hll⟩ : ∃l,es.length=l:=⟨_,rfl⟩
  have HL:=Aside0.mk hll
  rw[hll] at hv
  have HRC:=Aside0.mk (fun (W:World) (b:Nat) (h:W.heap[b]? = some (.cells (recA r) 46 (0,0)))=>rec_cells h)
  obtain⟨kd,tx,pg,pv,nx,key,had,has_,old,new⟩:=r
  simp only at hk HROOM HRE HRC
  clear hp hr hll hroom
  subst hv
  have hge:decide (lsn≤l0)=false:=decide_eq_false (by omega)
  simp only[recV,recA]
  rcases hk with rfl | rfl
  all_goals
    go_enter Tryz.func128,Tryz.ntmps128
    go_wp2_with fail
    refine (eremove_calls l0 _ es key _ (HP.out.below (by repeat (first | exact Below.refl _ _ | apply below_alloc))) HR.out).mono ?_
    rintro e w1 ⟨v1,rfl,hp1,hb1⟩
    have hz3:w.heap.size+1+1+1≤w1.heap.size:=by
      have:=hb1.size
      simp only[World.alloc,Array.size_push] at this
      omega
    have hA1:=(hb1.block w.heap.size (by show _<(((w.heap.push _).push _).push _).size;simp only[Array.size_push];omega)).trans ((Below.heap_alloc _ _ _ (by show _<((w.heap.push _).push _).size;simp only[Array.size_push];omega)).trans ((Below.heap_alloc _ _ _ (by show _<(w.heap.push _).size;simp only[Array.size_push];omega)).trans (heap_alloc_new w (.cells #[.int .i64 l0,.slice A l cap] 74))))
    have hB1:=(hb1.block (w.heap.size+1) (by show _<(((w.heap.push _).push _).push _).size;simp only[Array.size_push];omega)).trans ((Below.heap_alloc _ _ _ (by show _<((w.heap.push _).push _).size;simp only[Array.size_push];omega)).trans (alloc_at _ _ (show (w.alloc _).heap.size=w.heap.size+1 from by show (w.heap.push _).size=_;rw[Array.size_push])))
    have hC1:=(hb1.block (w.heap.size+1+1) (by show _<(((w.heap.push _).push _).push _).size;simp only[Array.size_push];omega)).trans (alloc_at _ _ (show ((w.alloc _).alloc _).heap.size=w.heap.size+1+1 from by show ((w.heap.push _).push _).size=_;simp only[Array.size_push]))
    obtain⟨a0,a1,_,_⟩:=pg_cells hA1
    obtain⟨_,_,_,_,_,b5,_,b7,_,b9⟩:=HRC.out _ _ hB1
    have HA1:=Aside0.mk hA1
    have HB1:=Aside0.mk hB1
    have HC1:=Aside0.mk hC1
    have HBB:=Aside0.mk (below_step (show Below w.heap.size w _ by repeat (first | exact Below.refl _ _ | apply below_alloc)) hb1)
    have HP1:=Aside0.mk hp1
    obtain⟨A1,c1,rfl,_⟩:=ow_slice hp1.1
    obtain⟨l1,hl1⟩ : ∃l1,(dropT es key).length=l1:=⟨_,rfl⟩
    have HL1:=Aside0.mk hl1
    rw[hl1] at HP1 ⊢
    obtain⟨d0,d1,e0,e1⟩:=pg_cells hC1
    have t6:=tag_of hC1
    have hx0:w.heap.size<w1.heap.size:=by omega
    have hx1:w.heap.size+1<w1.heap.size:=by omega
    have hx2:w.heap.size+1+1<w1.heap.size:=by omega
    have hy2:w1.heap.size≠w.heap.size+1+1:=by omega
    have hy3:w.heap.size+1+1≠w1.heap.size:=by omega
    clear hA1 hB1 hC1 hb1 hp1 hl1
    cases has_ with
    | false=>
      go_wp2_with fail
      refine bodyPost_ret (v:=.tuple #[.agg #[.int .i64 lsn,.slice A1 l1 c1],.bool true,.nilIface]) ?_ ?_ ?_
      case refine_2=>rfl
      case refine_3=>
        refine⟨.slice A1 l1 c1,rfl,?_,?_⟩
        · rw[HRE.out]
          simp only[Bool.false_eq_true,if_false]
          refine P2.frm (T:=[74]) (M:=fun _=>True) HP1.out ?_ (by decide)
          repeat (first | exact Frm.refl _ _ _ | apply Frm.alloc | apply Frm.drew | refine Frm.set ?_ (fun hh=>⟨trivial,by first | (rw[t6];exact List.mem_cons_self) | (exfalso;simp at hh)⟩) _)
        · repeat (first | exact HBB.out | apply below_drew1 | apply below_alloc | refine Below.setCell ?_ (by first | (show w.heap.size≤w.heap.size+1+1;omega) | (show w.heap.size≤w1.heap.size;omega)) _)
      simp[results,Tryz.results128,go_sem,d0,d1,hx2,hy2,hy3]
    | true=>
      go_wp2_with fail
      refine (eput_calls l0 _ es key new _ (HP.out.below (below_alloc HBB.out _)) HR.out (by first | exact HROOM.out rfl | exact HROOM.out trivial)).mono ?_
      rintro e w2 ⟨v2,rfl,hp2,hb2⟩
      have h19:=(hb2.block w1.heap.size (by show _<(w1.heap.push _).size;rw[Array.size_push];omega)).trans (heap_alloc_new w1 (.cells #[.int .i64 l0,.slice A1 l1 c1] 74))
      have h1O:=(hb2.block (w.heap.size+1+1) (by show _<(w1.heap.push _).size;rw[Array.size_push];omega)).trans ((Below.heap_alloc _ _ _ hx2).trans HC1.out)
      obtain⟨s0,s1,s2,s3⟩:=pg_cells h19
      obtain⟨u0,u1,u2,u3⟩:=pg_cells h1O
      have t7:=tag_of h19
      have t8:=tag_of h1O
      have HBB2:=Aside0.mk (below_step (below_alloc HBB.out _) hb2)
      have HP2:=Aside0.mk hp2
      obtain⟨A2,c2,rfl,_⟩:=ow_slice hp2.1
      obtain⟨l2,hl2⟩ : ∃l2,(putE es key new).length=l2:=⟨_,rfl⟩
      have HL2:=Aside0.mk hl2
      rw[hl2] at HP2 ⊢
      clear h19 h1O hb2 hp2 hl2 a0 a1 b5 b7 b9 d0 d1 e0 e1
      go_wp2_with fail
      refine bodyPost_ret (v:=.tuple #[.agg #[.int .i64 lsn,.slice A2 l2 c2],.bool true,.nilIface]) ?_ ?_ ?_
      case refine_2=>rfl
      case refine_3=>
        refine⟨.slice A2 l2 c2,rfl,?_,?_⟩
        · rw[HRE.out]
          simp only[if_true]
          refine P2.frm (T:=[74]) (M:=fun _=>True) HP2.out ?_ (by decide)
          repeat (first | exact Frm.refl _ _ _ | apply Frm.alloc | apply Frm.drew | refine Frm.set ?_ (fun hh=>⟨trivial,by first | (rw[t7];exact List.mem_cons_self) | (rw[t8];exact List.mem_cons_self)⟩) _)
        · repeat (first | exact HBB2.out | apply below_drew1 | apply below_alloc | refine Below.setCell ?_ (by first | (show w.heap.size≤w.heap.size+1+1;omega) | (show w.heap.size≤w1.heap.size;omega)) _)
      simp[results,Tryz.results128,go_sem,s0,s1,u0,u1,hx2,hy2,hy3]
end Go.Proofs.YtaplpeoikebedaaGreatDoor.ChangeT
namespace Go.Proofs.YtaplpeoikebedaaGreatDoor.FwdS
open Go.RowKit Go.Maps YtaplpeoikebedaaGreatDoorW.PrintWords YtaplpeoikebedaaGreatDoorW.PrintLast YtaplpeoikebedaaGreatDoorW.PrintMore
open See Mem Page Disk DiskN DiskW RecD Rec Dirty Wal WalF SysD SysM PoolG PoolS Pager StoreD PageM StoreF FlushG StoreG StoreI StoreJ ChangeT TransT LockT LockU SpaceT WaitT FwdM FwdP FwdC FwdT FwdB
attribute [local go_sem] max2_imax min2_imin max_two min_two
def rec0 (key:Int)(had:Bool)(old:Int)(has:Bool)(new:Int):RecV:=⟨0,0,0,0,0,key,had,has,old,new⟩
theorem set_low (a:Nat→Addr)(M:Nat→Prop)(sp lp pp dp qp mp:Nat)(blocks frames:Int)(F:FS)(x:Tx)(l0:Int)(v:Value)(r:RecV)(w:World)(h:FwM M w sp lp pp dp qp mp blocks frames F)(hs:SentsAll w a)(hfr:F.free<2)(hv : ∃A n c,v = .slice A n c) :
    Calls Tryz.prog 72 #[.pointer (some ⟨sp,0,none⟩),txV x,.agg #[.int .i64 l0,v],recV r] w fun e w'=>e = .returned (errv a (some 8))∧FwPost M sp lp pp dp qp mp blocks frames F w w':=by
  have HF:=Aside0.mk (fun (W:World) (hb:Below w.heap.size w W)=>h.below hb)
  have HR:=Aside0.mk (FwPost.refl h)
  have HSE:=Aside0.mk (fun (W:World) (hb:Below w.heap.size w W)=>(hs.below hb).cell 8 (by decide))
  have hspl:sp<w.heap.size:=by obtain⟨kv,tv,b1,_⟩:=h.box;exact heap_lt b1
  obtain⟨_,_,_,_,_,_,k10,_⟩:=h.cells
  have hgl:2<w.heap.size:=World.block_lt_of_cell? _ _ (hs.cell 8 (by decide))
  have hg8:w.cell? ⟨2,0,none⟩=some (.iface 333 (.pointer (some (a 8)))):=hs.cell 8 (by decide)
  have hd:decide (F.free<2)=true:=decide_eq_true hfr
  obtain⟨A,n,c,rfl⟩:=hv
  obtain⟨xi,xs,xl,xn⟩:=x
  obtain⟨r0,r1,r2,r3,r4,r5,r6,r7,r8,r9⟩:=r
  simp only[txV,recV,errv]
  clear h hs hfr
  go_enter Tryz.func72,Tryz.ntmps72
  go_upto_region 1 with fail
  obtain⟨W,hW⟩ : ∃W,((w.alloc (.cells #[.int .i64 xi,.int .i64 xs,.int .i64 xl,.int .i64 xn] 102)).alloc (.cells #[.int .i64 l0,.slice A n c] 74)).alloc (.cells #[.int .i64 r0,.int .i64 r1,.int .i64 r2,.int .i64 r3,.int .i64 r4,.int .i64 r5,.bool r6,.bool r7,.int .i64 r8,.int .i64 r9] 46)=W:=⟨_,rfl⟩
  have HBW:=Aside0.mk (show Below w.heap.size w W from by rw[←hW];repeat (first | exact Below.refl _ _ | apply below_drew1 | apply below_alloc))
  rw[hW]
  have j10:=pw_cell_below HBW.out k10
  have j8:=pw_cell_below HBW.out hg8
  clear hW k10 hg8
  go_wp2_with fail
  refine (free_space qp F.free F.kept _ (HF.out _ HBW.out).room).mono ?_
  rintro e w' ⟨rfl,rfl⟩
  go_wp2_with fail
  go_ret
  exact⟨rfl,FwPost.step HR.out HBW.out⟩
def recPut (w:World)(b:Nat)(k t p v:Int):World:=(((w.setCell ⟨b,0,none⟩ (.int .i64 k)).setCell ⟨b,1,none⟩ (.int .i64 t)).setCell ⟨b,2,none⟩ (.int .i64 p)).setCell ⟨b,3,none⟩ (.int .i64 v)
theorem recPut_heap {w:World}{b:Nat}{r:RecV}(h:w.heap[b]? = some (.cells (recA r) 46 (0,0)))(k t p v:Int):(recPut w b k t p v).heap[b]? = some (.cells (recA { r with kind:=k,txn:=t,page:=p,prev:=v }) 46 (0,0)):=by
  have h0:=heap_setCell_same w b 0 _ _ (.int .i64 k) h
  have h1:=heap_setCell_same _ b 1 _ _ (.int .i64 t) h0
  have h2:=heap_setCell_same _ b 2 _ _ (.int .i64 p) h1
  have h3:=heap_setCell_same _ b 3 _ _ (.int .i64 v) h2
  exact h3
theorem recPut_other {w:World}{b k:Nat}(h:k≠b)(x t p v:Int):(recPut w b x t p v).heap[k]? = w.heap[k]? := by
  unfold recPut
  rw[Below.heap_setCell _ _ _ _ h,Below.heap_setCell _ _ _ _ h,Below.heap_setCell _ _ _ _ h,Below.heap_setCell _ _ _ _ h]
theorem recPut_below {B:Nat}{w w1:World}{b:Nat}(h:Below B w w1)(hb:B≤b)(k t p v:Int):Below B w (recPut w1 b k t p v):=(((h.setCell hb _).setCell hb _).setCell hb _).setCell hb _
structure S0 (w:World) (x:Tx) (l0:Int) (v:Value) (r:RecV) (w3:World):Prop where
  b:Below w.heap.size w w3
  x:w3.heap[w.heap.size]? = some (.cells #[.int .i64 x.id,.int .i64 x.state,.int .i64 x.last,.int .i64 x.next] 102 (0,0))
  g:w3.heap[w.heap.size+1]? = some (.cells #[.int .i64 l0,v] 74 (0,0))
  r:w3.heap[w.heap.size+1+1]? = some (.cells (recA r) 46 (0,0))
theorem S0.below {w:World}{x:Tx}{l0:Int}{v:Value}{r:RecV}{w3 w4:World}(h:S0 w x l0 v r w3)(hb:Below w3.heap.size w3 w4):S0 w x l0 v r w4:=
  ⟨below_step h.b hb,(hb.block _ (heap_lt h.x)).trans h.x,(hb.block _ (heap_lt h.g)).trans h.g,(hb.block _ (heap_lt h.r)).trans h.r⟩
theorem sO {b k:Nat}(h:k≠b)(V:World)(i j:Nat)(v:Value):(V.setCell ⟨b,i,none⟩ v).cell? ⟨k,j,none⟩=V.cell? ⟨k,j,none⟩:=World.cell?_setCell_other _ _ _ _ (by intro e;injection e with e;exact h e.symm)
theorem sI {i j:Nat}(h:i≠j)(V:World)(b:Nat)(v:Value):(V.setCell ⟨b,i,none⟩ v).cell? ⟨b,j,none⟩=V.cell? ⟨b,j,none⟩:=World.cell?_setCell_other _ _ _ _ (by intro e;injection e with _ e;exact h e)
theorem sD (V:World)(x:Addr):V.drew.cell? x=V.cell? x:=rfl
theorem set_done (a:Nat→Addr)(M:Nat→Prop)(sp lp pp dp qp mp:Nat)(blocks frames:Int)(F:FS)(id l0:Int)(v:Value)(es:List (Int×Int))(key:Int)(hd:Bool)(ol:Int)(hb:Bool)(nw:Int)(w:World)(h:FwM M w sp lp pp dp qp mp blocks frames F)(hs:SentsAll w a)(hO:OutAll M a)(hid:thas F.ts id=true)(hr:Rising (kvT F.ts))(hp:P2 w 169 v es)(hes:Rising es)(hk0:0≤key)(hk1:key<1048576)(hP1:1≤F.P)(hP2:F.P≤1000)(hfr:2≤F.free)(htop:F.free≤1073741824∧0≤F.kept∧F.kept≤1073741824)
    (hrec:recOk (recSet (tget F.ts id) F.P key hd ol hb nw)=true) (hroom:1≤F.S.l.room) (hl0:l0<F.S.l.last+1) (hput:hb=true→has es key=true∨es.length<20) (ht:F.S.t.length≤70000) (htid:(tget F.ts id).id=id)
    (hset:setS (addRec F.S (recSet (tget F.ts id) F.P key hd ol hb nw)) (placeOf key F.P) (F.S.l.last+1) (redoE es (recSet (tget F.ts id) F.P key hd ol hb nw))=((setF F id key hd ol hb nw).S,none)) :
    Calls Tryz.prog 72 #[.pointer (some ⟨sp,0,none⟩),txV (tget F.ts id),.agg #[.int .i64 l0,v],recV (rec0 key hd ol hb nw)] w fun e w'=>e = .returned .nilIface∧FwPost M sp lp pp dp qp mp blocks frames (setF F id key hd ol hb nw) w w':=by
  have HF:=Aside0.mk h
  have HS:=Aside0.mk hs
  have HO:=Aside0.mk hO
  have HID:=Aside0.mk (And.intro hid hr)
  have HPP:=Aside0.mk hp
  have HES:=Aside0.mk hes
  have HTOP:=Aside0.mk htop
  have HREC:=Aside0.mk (append_room hrec hroom)
  have HL0:=Aside0.mk hl0
  have HPUT:=Aside0.mk hput
  have HT:=Aside0.mk ht
  have HSET:=Aside0.mk hset
  have HFRE:=Aside0.mk hfr
  have hspl:sp<w.heap.size:=by obtain⟨kv,tv,b1,_⟩:=h.box;exact heap_lt b1
  have hd2:decide (F.free<2)=false:=decide_eq_false (by omega)
  obtain⟨A,c,rfl,_⟩:=ow_slice hp.1
  obtain⟨n,hn⟩ : ∃n,es.length=n:=⟨_,rfl⟩
  have HN:=Aside0.mk hn
  obtain⟨pk,hpk⟩ : ∃pk,placeOf key F.P=pk:=⟨_,rfl⟩
  have HPK:=Aside0.mk hpk
  obtain⟨x,hxx⟩ : ∃x,tget F.ts id=x:=⟨_,rfl⟩
  have HXX:=Aside0.mk hxx
  rw[hxx] at HREC HSET ⊢
  rw[hpk] at HSET
  have hri:x.id=id:=by rw[←hxx];exact htid
  obtain⟨r',hr'⟩ : ∃r',recSet x F.P key hd ol hb nw=r':=⟨_,rfl⟩
  rw[hr'] at HREC HSET
  have HRR:=Aside0.mk (show r'=⟨2,id,pk,x.last,0,key,hd,hb,ol,nw⟩ from by rw[←hr',←hri];unfold recSet;rw[hpk])
  obtain⟨P,hP⟩ : ∃P,F.P=P:=⟨_,rfl⟩
  rw[hP] at hP1 hP2
  have HPL:=Aside0.mk (show placeOf key P=pk by rw[←hP];exact hpk)
  have HC0:=Aside0.mk (show w.cell? ⟨sp,0,none⟩=some (.int .i64 P) by rw[←hP];exact h.cells.1)
  have k10:=h.cells.2.2.2.2.2.2.1
  rw[hn]
  obtain⟨xi,xs,xl,xn⟩:=x
  simp only at hri HRR
  subst hri
  simp only[txV,recV,rec0]
  clear h hs hO hid hr hp hes htop hrec hroom hl0 hput ht hset hfr hpk hxx hr' hP hn htid
  go_enter Tryz.func72,Tryz.ntmps72
  go_upto_region 1 with fail
  obtain⟨W,hW⟩ : ∃W,((w.alloc (.cells #[.int .i64 xi,.int .i64 xs,.int .i64 xl,.int .i64 xn] 102)).alloc (.cells #[.int .i64 l0,.slice A n c] 74)).alloc (.cells #[.int .i64 0,.int .i64 0,.int .i64 0,.int .i64 0,.int .i64 0,.int .i64 key,.bool hd,.bool hb,.int .i64 ol,.int .i64 nw] 46)=W:=⟨_,rfl⟩
  have HBW:=Aside0.mk (show Below w.heap.size w W from by rw[←hW];repeat (first | exact Below.refl _ _ | apply below_drew1 | apply below_alloc))
  have HSZ:=Aside0.mk (show W.heap.size=w.heap.size+1+1+1 from by rw[←hW];show (((w.heap.push _).push _).push _).size=_;simp only[Array.size_push])
  have HS0:=Aside0.mk (show S0 w ⟨xi,xs,xl,xn⟩ l0 (.slice A n c) (rec0 key hd ol hb nw) W from by
    refine⟨HBW.out,?_,?_,?_⟩
    · rw[←hW]
      exact (Below.heap_alloc _ _ _ (by show _<((w.heap.push _).push _).size;simp only[Array.size_push];omega)).trans ((Below.heap_alloc _ _ _ (by show _<(w.heap.push _).size;simp only[Array.size_push];omega)).trans (heap_alloc_new w _))
    · rw[←hW]
      exact (Below.heap_alloc _ _ _ (by show _<((w.heap.push _).push _).size;simp only[Array.size_push];omega)).trans (alloc_at _ _ (show (w.alloc _).heap.size=w.heap.size+1 from by show (w.heap.push _).size=_;rw[Array.size_push]))
    · rw[←hW]
      exact alloc_at _ _ (show ((w.alloc _).alloc _).heap.size=w.heap.size+1+1 from by show ((w.heap.push _).push _).size=_;simp only[Array.size_push]))
  rw[hW]
  have j10:=pw_cell_below HBW.out k10
  clear hW k10
  go_wp2_with fail
  refine (free_space qp F.free F.kept _ (HF.out.below HBW.out).room).mono ?_
  rintro e w' ⟨rfl,rfl⟩
  have j0:=pw_cell_below HBW.out HC0.out
  obtain⟨x0,x1,x2,x3,_,_,_,_⟩:=tx_cells HS0.out.x
  obtain⟨y0,y1,y2,y3,y4,y5,y6,y7,y8,y9⟩:=rec_cells HS0.out.r
  obtain⟨br,hbr⟩ : ∃br,w.heap.size+1+1=br:=⟨_,rfl⟩
  have HBR:=Aside0.mk hbr
  rw[hbr] at y0 y1 y2 y3 y4 y5 y6 y7 y8 y9 ⊢
  have HS0R:W.heap[br]? = some (.cells (recA (rec0 key hd ol hb nw)) 46 (0,0)):=by rw[←hbr];exact HS0.out.r
  have f0:W.frozen? ⟨br,0,none⟩=false:=by simp[World.frozen?,HS0R]
  have f1:W.frozen? ⟨br,1,none⟩=false:=by simp[World.frozen?,HS0R]
  have f2:W.frozen? ⟨br,2,none⟩=false:=by simp[World.frozen?,HS0R]
  have f3:W.frozen? ⟨br,3,none⟩=false:=by simp[World.frozen?,HS0R]
  have hspW:sp<W.heap.size:=by have:=HSZ.out;omega
  have hne:sp≠br:=by omega
  simp only[rec0] at y0 y1 y2 y3 y4 y5 y6 y7 y8 y9
  have hnx:w.heap.size≠br:=by omega
  have HS0R':=Aside0.mk HS0R
  clear HS0R hbr
  clear y4 y6 y7 y8 y9 x1 x3
  go_upto_region 3 with fail
  clear hd2 j10
  go_cut [] (fun wx=>Aside0 (S0 w ⟨xi,xs,xl,xn⟩ l0 (.slice A n c) r' wx)∧Aside0 (wx.heap.size=w.heap.size+1+1+1))
  case first=>
    go_region_held3 (fun w'=>w'.cell? ⟨sp,0,none⟩=some (.int .i64 P)∧w'.cell? ⟨w.heap.size,0,none⟩=some (.int .i64 xi)∧w'.cell? ⟨w.heap.size,2,none⟩=some (.int .i64 xl)∧w'.cell? ⟨br,5,none⟩=some (.int .i64 key))
      (first | (simp only[sD,sO hne,sO hnx,sI (show (0:Nat)≠5 by decide),sI (show (1:Nat)≠5 by decide),sI (show (2:Nat)≠5 by decide),sI (show (3:Nat)≠5 by decide)];exact⟨j0,x0,x2,y5⟩) | exact⟨j0,x0,x2,y5⟩)
      (first
        | (go_at_call 125;refine (place_at key P pk hk0 hk1 hP1 hP2 HPL.out _).mono ?_;rintro e wq ⟨rfl,rfl⟩))
    rw[show (((W.setCell ⟨br,0,none⟩ (.int .i64 2)).setCell ⟨br,1,none⟩ (.int .i64 xi)).setCell ⟨br,2,none⟩ (.int .i64 pk)).setCell ⟨br,3,none⟩ (.int .i64 xl)=recPut W br 2 xi pk xl from rfl]
    have HS3:=Aside0.mk (show S0 w ⟨xi,xs,xl,xn⟩ l0 (.slice A n c) r' (recPut W br 2 xi pk xl) from by
      have hbr:=HBR.out
      refine⟨recPut_below HBW.out (by omega) _ _ _ _,(recPut_other (by omega) _ _ _ _).trans HS0.out.x,(recPut_other (by omega) _ _ _ _).trans HS0.out.g,?_⟩
      rw[hbr,HRR.out]
      exact recPut_heap HS0R'.out _ _ _ _)
    have HZ3:=Aside0.mk (show (recPut W br 2 xi pk xl).heap.size=w.heap.size+1+1+1 from by unfold recPut;simp[World.setCell];exact HSZ.out)
    clear f0 f1 f2 f3 y0 y1 y2 y3 y5 x0 x2 j0
    generalize recPut W br 2 xi pk xl=wd at HS3 HZ3 ⊢
    go_wp2_with fail
    go_meet
    exact⟨⟨HS3.out.below (by repeat (first | exact Below.refl _ _ | apply below_drew1))⟩,HZ3⟩
  case rest=>
    obtain⟨HS3,HZ3⟩:=hcut
    clear f0 f1 f2 f3 y0 y1 y2 y3 y5 x0 x2 j0 hspW hne hnx
    generalize wc=V0 at HS3 HZ3 ⊢
    have HLB0:=Aside0.mk (LB.start HF.out HS3.out.b)
    have hw3:w.heap.size+3=V0.heap.size:=by rw[HZ3.out]
    have HXB:=Aside0.mk HS3.out.x
    have HGB:=Aside0.mk HS3.out.g
    have HRB:=Aside0.mk (show V0.heap[br]? = some (.cells (recA r') 46 (0,0)) by rw[←HBR.out];exact HS3.out.r)
    have hbrw:w.heap.size≤br:=by have:=HBR.out;omega
    have HAP:=Aside0.mk (show ∀(V:World),Below V0.heap.size V0 V→Calls Tryz.prog 63 #[.pointer (some ⟨lp,0,none⟩),recV r'] V (fun e w'=>e = .returned (.tuple #[.int .i64 (F.S.l.last+1),.nilIface])∧∃R,LB M sp lp pp dp qp mp blocks frames { F with S:=addRec F.S r' } w V0 R w') from fun V hbl=>by
      have hl:=HLB0.out.below hbl
      obtain⟨hs1,hs2⟩:=hl.sents HS.out HO.out
      obtain⟨lv,hlg⟩:=hl.f.sys.log
      have:=append_log a _ lp dp lv F.S.l r' V (hs1.k _ (by decide)) hlg
      exact this.mono fun e w' hh=>by
        obtain⟨rfl,v3,hl3,hf3⟩:=hh
        rw[HREC.out.2.2] at hl3
        rw[HREC.out.1,HREC.out.2.1,show errv a none = .nilIface from rfl]
        exact⟨rfl,_,hl.step (FwM.lg hl.f ⟨v3,hl3⟩ hf3)⟩)
    have j4:=HLB0.out.f.cells.2.2.1
    obtain⟨y0,y1,y2,y3,y4,y5,y6,y7,y8,y9⟩:=rec_cells HRB.out
    rw[HRR.out] at y0 y1 y2 y3 y4 y5 y6 y7 y8 y9 HAP
    simp only[recV] at y0 y1 y2 y3 y4 y5 y6 y7 y8 y9 HAP
    go_upto_region 4 with fail
    go_cut [9,10] (fun v9 v10 wx=>v9 = .int .i64 (F.S.l.last+1)∧v10 = .nilIface∧∃R,Aside0 (LB M sp lp pp dp qp mp blocks frames { F with S:=addRec F.S r' } w V0 R wx))
    case first=>
      go_region_law (first
        | (go_simp;go_at_call 63;refine (HAP.out _ (by repeat (first | exact Below.refl _ _ | apply below_drew1))).mono ?_;rintro e w4 ⟨rfl,R4,hl4⟩;have HL4:=Aside0.mk hl4;clear hl4))
      all_goals
        go_wp2_with fail
        go_meet
        exact⟨rfl,rfl,R4,by rw[HRR.out];exact HL4⟩
    case rest=>
      obtain⟨rfl,rfl,R4,HL4⟩:=hcut
      generalize wc=V1 at HL4 ⊢
      clear j4 y0 y1 y2 y3 y4 y5 y6 y7 y8 y9
      have j10:=HL4.out.f.cells.2.2.2.2.2.2.1
      have hlsp:sp<V1.heap.size:=by have:=HL4.out.k.size;omega
      go_wp2_with fail
      refine (ask_space _ qp F.free F.kept 1 1 _ HL4.out.f.room HL4.out.f.low.2.1 (by omega) (by omega) (by have:=HFRE.out;omega) HTOP.out.1 HTOP.out.2.1 HTOP.out.2.2).mono ?_
      rintro e V2 ⟨rfl,hs5,hf5⟩
      have HL5:=Aside0.mk (HL4.out.step (FwM.spc HL4.out.f hs5 hf5))
      clear hs5 hf5 j10 hlsp
      have HXB5:=Aside0.mk (HL5.out.at HXB.out (Nat.le_refl _))
      obtain⟨cs,tv,htx,hput2⟩:=FwM.txs HL5.out.f HID.out.2
      have HTX:=Aside0.mk htx
      have HPT:=Aside0.mk hput2
      clear htx hput2
      obtain⟨x0,x1,x2,x3,_,_,_,_⟩:=tx_cells HXB5.out
      have hl5:=heap_lt HXB5.out
      have HNT:=Aside0.mk (show ∀(V:World),Below V2.heap.size V2 V→Calls Tryz.prog 66 #[.pointer (some ⟨sp,8,none⟩),.int .i64 xi,.int .i64 (F.S.l.last+1),.int .i64 (F.S.l.last+1)] V (fun e w'=>e = .returned (.bool true)∧∃R,LB M sp lp pp dp qp mp blocks frames { F with S:=addRec F.S r',free:=F.free - (1+1),kept:=F.kept+1,ts:=tnote F.ts xi (F.S.l.last+1) (F.S.l.last+1) } w V0 R w') from fun V hbl=>by
        have:=tnote_calls _ sp 8 118 cs tv F.ts F.most xi (F.S.l.last+1) (F.S.l.last+1) V (HTX.out.below hbl) HID.out.1
        exact this.mono fun e w' hh=>by
          obtain⟨rfl,hpost⟩:=hh
          exact⟨rfl,_,HL5.out.step (HPT.out _ _ _ (Int.le_refl _) (hpost.back hbl))⟩)
      go_upto_region 8 with fail
      go_cut [] (fun wx => ∃R,Aside0 (LB M sp lp pp dp qp mp blocks frames { F with S:=addRec F.S r',free:=F.free - (1+1),kept:=F.kept+1,ts:=tnote F.ts xi (F.S.l.last+1) (F.S.l.last+1) } w V0 R wx))
      case first=>
        go_region_law (first
          | (go_simp;go_at_call 66;refine (HNT.out _ (by repeat (first | exact Below.refl _ _ | apply below_drew1))).mono ?_;rintro e w6 ⟨rfl,R6,hl6⟩;have HL6:=Aside0.mk hl6;clear hl6))
        all_goals
          go_wp2_with fail
          go_meet
          exact⟨R6,HL6⟩
      case rest=>
        obtain⟨R6,HL6⟩:=hcut
        generalize wc=V3 at HL6 ⊢
        clear x0 x1 x2 x3 hl5
        have HG6:=Aside0.mk (HL6.out.at HGB.out (by omega))
        have HR6:=Aside0.mk (HL6.out.at HRB.out hbrw)
        have HP6:=Aside0.mk (p2_kp HPP.out HL6.out.k)
        obtain⟨_,_,g0,g1⟩:=pg_cells HG6.out
        obtain⟨y0,y1,y2,y3,y4,y5,y6,y7,y8,y9⟩:=rec_cells HR6.out
        rw[HRR.out] at y0 y1 y2 y3 y4 y5 y6 y7 y8 y9
        simp only at y0 y1 y2 y3 y4 y5 y6 y7 y8 y9
        have HRD:=Aside0.mk (by have h:=HP6.out;have:=redo_calls l0 (F.S.l.last+1) (.slice A n c) es r' V3 (by rw[HN.out] at h;exact h) HES.out (by rw[HRR.out];exact .inl rfl) HL0.out (by rw[HRR.out];exact HPUT.out);rw[HRR.out] at this;exact this)
        simp only[recV] at HRD
        have hg6:=heap_lt HG6.out
        have hr6:=heap_lt HR6.out
        go_wp2_with fail
        refine HRD.out.mono ?_
        rintro e V4 ⟨v2,rfl,hp4,hb4⟩
        rw[←HRR.out] at hp4
        obtain⟨A2,c2,rfl,_⟩:=ow_slice hp4.1
        obtain⟨n2,hn2⟩ : ∃n2,(redoE es r').length=n2:=⟨_,rfl⟩
        rw[hn2] at hp4 ⊢
        have HL7:=Aside0.mk (HL6.out.below (hb4.trans (below_alloc (Below.refl _ _) (.cells #[.int .i64 (F.S.l.last+1),.slice A2 n2 c2] 74) |>.mono hb4.size)))
        have HP7:=Aside0.mk (hp4.below (below_alloc (Below.refl _ _) (.cells #[.int .i64 (F.S.l.last+1),.slice A2 n2 c2] 74)))
        obtain⟨bo,hbo⟩ : ∃bo,V4.heap.size=bo:=⟨_,rfl⟩
        have HBO:=Aside0.mk hbo
        obtain⟨V5,hV5⟩ : ∃V5,V4.alloc (.cells #[.int .i64 (F.S.l.last+1),.slice A2 n2 c2] 74)=V5:=⟨_,rfl⟩
        have HV5:=Aside0.mk hV5
        have HO7:=Aside0.mk (show V5.heap[bo]? = some (.cells #[.int .i64 (F.S.l.last+1),.slice A2 n2 c2] 74 (0,0)) by rw[←hV5,←hbo];exact heap_alloc_new _ _)
        rw[hV5] at HL7 HP7
        have HR7:=Aside0.mk (HL7.out.at HRB.out hbrw)
        clear hp4 hb4 hbo hV5 hn2 g0 g1 y0 y1 y2 y3 y4 y5 y6 y7 y8 y9 hg6 hr6
        have HST:=Aside0.mk (show ∀(V:World),Below V5.heap.size V5 V→Calls Tryz.prog 129 #[.pointer (some ⟨pp,0,none⟩),.int .i64 pk,.agg #[.int .i64 (F.S.l.last+1),.slice A2 n2 c2]] V (fun e w'=>e = .returned .nilIface∧∃R,LB M sp lp pp dp qp mp blocks frames (setF F xi key hd ol hb nw) w V0 R w') from fun V hbl=>by
          have hl:=HL7.out.below hbl
          obtain⟨hs1,hs2⟩:=hl.sents HS.out HO.out
          have:=set_pool a _ pp lp dp (addRec F.S r') pk (F.S.l.last+1) (.slice A2 n2 c2) (redoE es r') V (hs1.k _ (by decide)) hl.f.sys (HP7.out.below hbl) HT.out
          exact this.mono fun e w' hh=>by
            obtain⟨rfl,hx,hf⟩:=hh
            rw[HSET.out] at hx ⊢
            exact⟨rfl,_,hl.step (FwM.sy hl.f hx hf)⟩)
        go_upto_region 10 with fail
        rw[HBO.out,show V4.alloc (.cells #[.int .i64 (F.S.l.last+1),.slice A2 n2 c2] 74)=V5 from HV5.out]
        have j5:=HL7.out.f.cells.2.2.2.1
        obtain⟨_,_,g0,g1⟩:=pg_cells HO7.out
        have y2:=(rec_cells HR7.out).2.2.1
        rw[HRR.out] at y2
        simp only at y2
        go_upto_region 12 with fail
        go_cut [8] (fun v8 wx=>v8 = .nilIface∧∃R,Aside0 (LB M sp lp pp dp qp mp blocks frames (setF F xi key hd ol hb nw) w V0 R wx))
        case first=>
          go_region_law (first
            | (go_simp;go_at_call 129;refine (HST.out _ (by repeat (first | exact Below.refl _ _ | apply below_drew1))).mono ?_;rintro e w8 ⟨rfl,R8,hl8⟩;have HL8:=Aside0.mk hl8;clear hl8))
          all_goals
            go_wp2_with fail
            go_meet
            exact⟨rfl,R8,HL8⟩
        case rest=>
          obtain⟨rfl,R8,HL8⟩:=hcut
          go_wp2_with fail
          go_ret
          exact⟨rfl,HL8.out.post⟩
end Go.Proofs.YtaplpeoikebedaaGreatDoor.FwdS
