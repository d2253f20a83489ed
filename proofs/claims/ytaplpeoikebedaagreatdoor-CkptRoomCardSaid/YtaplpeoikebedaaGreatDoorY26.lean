/- Joined texts: WaitT, WalR, ChainT, FwdM, FwdC. No condition but what each says. -/
import Derived.Test.YtaplpeoikebedaaGreatDoorY4
import Derived.Maps.OwnSet
import Derived.Laws.IdiomRangeMap
import Derived.Test.YtaplpeoikebedaaGreatDoorY11
import Derived.Test.YtaplpeoikebedaaGreatDoorY19
import Derived.Test.YtaplpeoikebedaaGreatDoorY18
import Derived.Test.YtaplpeoikebedaaGreatDoorY22
import Derived.Test.YtaplpeoikebedaaGreatDoorY25
import Derived.Maps.OwnOps
import Derived.Deep.RegionLaw
set_option maxHeartbeats 8000000
set_option maxRecDepth 100000
set_option linter.unusedVariables false
set_option linter.unusedSimpArgs false
namespace Go.Proofs.YtaplpeoikebedaaGreatDoor.WaitT
open Go.RowKit Go.Maps YtaplpeoikebedaaGreatDoorW.PrintWords YtaplpeoikebedaaGreatDoorW.PrintLast YtaplpeoikebedaaGreatDoorW.PrintMore
open See Mem Page
attribute [local go_sem] max2_imax min2_imin max_two min_two
theorem wf64 {n:Int}(h0 : -9223372036854775808≤n)(h1:n≤9223372036854775807):(Lit.int .i64 n).wf=true:=by
  simp[Lit.wf,IntKind.min,IntKind.max,IntKind.signed,IntKind.bits];omega
theorem wclear_nil (p o:Nat)(n:Int)(w:World)(hc:w.cell? ⟨p,o,none⟩=some (.map none))(h0 : -9223372036854775808≤n)(h1:n≤9223372036854775807) :
    Calls Tryz.prog 112 #[.pointer (some ⟨p,o,none⟩),.int .i64 n] w fun e w'=>e = .returned (.tuple #[])∧w=w':=by
  have hd:=fun (ty:TypeId) (W:World)=>Maps.drop_nil (w:=W) (P:=Tryz.prog) (t:=110) (int_keyed Tryz.underlying3) Tryz.underlying110 (keyOf_int_mk Tryz.underlying3 (wf64 h0 h1)) ty
  go_enter Tryz.func112,Tryz.ntmps112
  go_wp2
  go_end0
  simp
theorem wgone_nil (p o:Nat)(n:Int)(w:World)(hc:w.cell? ⟨p,o,none⟩=some (.map none))(h0 : -9223372036854775808≤n)(h1:n≤9223372036854775807) :
    Calls Tryz.prog 138 #[.pointer (some ⟨p,o,none⟩),.int .i64 n] w fun e w'=>e = .returned (.tuple #[])∧Below w.heap.size w w':=by
  have hlt:p<w.heap.size:=World.block_lt_of_cell? _ _ hc
  have HC:=Aside0.mk hc
  have HCL:=Aside0.mk (fun (W:World) (hb:Below w.heap.size w W)=>wclear_nil p o n W (pw_cell_below hb hc) h0 h1)
  have hr:=fun (W:World)=>run_range_nilMap (P:=Tryz.prog) W 110 3 22 Tryz.underlying110
  go_enter Tryz.func138,Tryz.ntmps138
  go_wp2_with fail
  refine (HCL.out _ (below_alloc (Below.refl _ _) _)).mono ?_
  rintro e w' ⟨rfl,rfl⟩
  go_wp2_with fail
  go_loopg [4] 1 (fun kq v4 w'=>w'=(w.alloc (.cells #[.int .i64 n] 3)).alloc (.mapIter none 0 #[] 0))
  case atStart=>rfl
  case round=>
    subst hrel
    have hx:=fun (ty:TypeId)=>run_next_nilMap (P:=Tryz.prog) (w.alloc (.cells #[.int .i64 n] 3)) ty 0 0 #[]
    have hsz:(w.alloc (.cells #[.int .i64 n] 3)).heap.size=w.heap.size+1:=by show (w.heap.push _).size=_;rw[Array.size_push]
    rw[hsz] at hx
    clear hsz
    go_wp2_with fail
    go_end0
    exact⟨rfl,below_alloc (below_alloc (Below.refl _ _) _) _⟩
end Go.Proofs.YtaplpeoikebedaaGreatDoor.WaitT
namespace Go.Proofs.YtaplpeoikebedaaGreatDoor.WalR
open Go.RowKit YtaplpeoikebedaaGreatDoorW.PrintWords YtaplpeoikebedaaGreatDoorW.PrintLast YtaplpeoikebedaaGreatDoorW.PrintMore
open See Mem Clone Go.Proofs.YtaplpeoikebedaaGreatDoor.Cell Page RecD Rec BlockB Pool3 Wal StoreD
attribute [local go_sem] max2_imax min2_imin max_two min_two
def recPut (w:World)(b:Nat)(r:RecV):World:=
  (((((((((w.setCell ⟨b,0,none⟩ (.int .i64 r.kind)).setCell ⟨b,1,none⟩ (.int .i64 r.txn)).setCell ⟨b,2,none⟩ (.int .i64 r.page)).setCell ⟨b,3,none⟩ (.int .i64 r.prev)).setCell ⟨b,4,none⟩ (.int .i64 r.next)).setCell ⟨b,5,none⟩ (.int .i64 r.key)).setCell ⟨b,6,none⟩ (.bool r.had)).setCell ⟨b,7,none⟩ (.bool r.has)).setCell ⟨b,8,none⟩ (.int .i64 r.old)).setCell ⟨b,9,none⟩ (.int .i64 r.new)
theorem recPut_heap {w:World}{b:Nat}{x0 x1 x2 x3 x4 x5 x6 x7 x8 x9:Value}(h:w.heap[b]? = some (.cells #[x0,x1,x2,x3,x4,x5,x6,x7,x8,x9] 46 (0,0)))(r:RecV):(recPut w b r).heap[b]? = some (.cells (recA r) 46 (0,0)):=by
  have h0:=heap_setCell_same _ _ 0 _ _ (.int .i64 r.kind) h
  have h1:=heap_setCell_same _ _ 1 _ _ (.int .i64 r.txn) h0
  have h2:=heap_setCell_same _ _ 2 _ _ (.int .i64 r.page) h1
  have h3:=heap_setCell_same _ _ 3 _ _ (.int .i64 r.prev) h2
  have h4:=heap_setCell_same _ _ 4 _ _ (.int .i64 r.next) h3
  have h5:=heap_setCell_same _ _ 5 _ _ (.int .i64 r.key) h4
  have h6:=heap_setCell_same _ _ 6 _ _ (.bool r.had) h5
  have h7:=heap_setCell_same _ _ 7 _ _ (.bool r.has) h6
  have h8:=heap_setCell_same _ _ 8 _ _ (.int .i64 r.old) h7
  have h9:=heap_setCell_same _ _ 9 _ _ (.int .i64 r.new) h8
  have e:(((((((((((#[x0,x1,x2,x3,x4,x5,x6,x7,x8,x9]:Array Value).setIfInBounds 0 (.int .i64 r.kind)).setIfInBounds 1 (.int .i64 r.txn)).setIfInBounds 2 (.int .i64 r.page)).setIfInBounds 3 (.int .i64 r.prev)).setIfInBounds 4 (.int .i64 r.next)).setIfInBounds 5 (.int .i64 r.key)).setIfInBounds 6 (.bool r.had)).setIfInBounds 7 (.bool r.has)).setIfInBounds 8 (.int .i64 r.old)).setIfInBounds 9 (.int .i64 r.new))=recA r:=by simp[recA]
  rw[e] at h9
  exact h9
theorem recPut_below {B:Nat}{w w1:World}{b:Nat}(h:Below B w w1)(hb:B≤b)(r:RecV):Below B w (recPut w1 b r):=
  (((((((((h.setCell hb _).setCell hb _).setCell hb _).setCell hb _).setCell hb _).setCell hb _).setCell hb _).setCell hb _).setCell hb _).setCell hb _
theorem rec_cells {w:World}{b:Nat}{r:RecV}(h:w.heap[b]? = some (.cells (recA r) 46 (0,0))):w.cell? ⟨b,0,none⟩=some (.int .i64 r.kind)∧w.cell? ⟨b,1,none⟩=some (.int .i64 r.txn)∧w.cell? ⟨b,2,none⟩=some (.int .i64 r.page)∧w.cell? ⟨b,3,none⟩=some (.int .i64 r.prev)∧w.cell? ⟨b,4,none⟩=some (.int .i64 r.next)∧w.cell? ⟨b,5,none⟩=some (.int .i64 r.key)∧w.cell? ⟨b,6,none⟩=some (.bool r.had)∧w.cell? ⟨b,7,none⟩=some (.bool r.has)∧w.cell? ⟨b,8,none⟩=some (.int .i64 r.old)∧w.cell? ⟨b,9,none⟩=some (.int .i64 r.new):=by
  refine⟨?_,?_,?_,?_,?_,?_,?_,?_,?_,?_⟩<;>simp[World.cell?,h,recA]
theorem LogM.at_ {M:Nat→Prop}{w:World}{lp dp:Nat}{A:Option Addr}{c:Nat}{L:Lg}(h:LogM M w lp dp (.slice A L.l.length c) L){i:Nat}{r:RecV}(hi:L.l[i]? = some r) :
    ∃g,A=some ⟨g,0,none⟩∧∀j u,(recL r)[j]? = some u→w.cell? ⟨g,i*10+j,none⟩=some u:=by
  have hlt:=(List.getElem?_eq_some_iff.1 hi).1
  obtain⟨g,c2,hv,_,_⟩:=h.row.form (by omega)
  injection hv with h1 h2 h3
  subst h1 h3
  refine⟨g,rfl,fun j u hj => ?_⟩
  have hj10:j<10:=by
    have:=(List.getElem?_eq_some_iff.1 hj).1
    simpa [recL] using this
  rw[h.row.cellAt _ (by omega),recCells_at L.l i r j hi hj10]
  exact hj
theorem rec_log (M:Nat→Prop)(lp dp:Nat)(v:Value)(L:Lg)(n:Int)(r:RecV)(w:World)(hl:LogM M w lp dp v L)(hr:recOf L n=some r) :
    Calls Tryz.prog 23 #[.pointer (some ⟨lp,0,none⟩),.int .i64 n] w fun e w'=>e = .returned (.tuple #[recV r,.bool true])∧Below w.heap.size w w':=by
  obtain⟨h1,h2⟩:=recOf_lt hr
  obtain⟨k1,k2,k3,k4,k5,k6,k7,k8⟩:=lg_bounds hl.ok
  have HLOG:=Aside0.mk (fun (W:World) (hb:Below w.heap.size w W)=>last_log M lp dp v L W (hl.below hb))
  have HC:=Aside0.mk (fun (W:World) (hb:Below w.heap.size w W)=>(hl.below hb).cells)
  obtain⟨i,hi⟩ : ∃i:Nat,(n - L.base - 1).toNat=i:=⟨_,rfl⟩
  have hri:L.l[i]? = some r:=by
    unfold recOf at hr
    rw[if_neg (by omega),hi] at hr
    exact hr
  have hil:=(List.getElem?_eq_some_iff.1 hri).1
  obtain⟨A,c,hv⟩:=hl.form
  subst hv
  have HAT:=Aside0.mk (fun (W:World) (hb:Below w.heap.size w W)=>LogM.at_ (hl.below hb) hri)
  obtain⟨len,hlen⟩ : ∃len,L.l.length=len:=⟨_,rfl⟩
  obtain⟨ba,hba⟩ : ∃ba,L.base=ba:=⟨_,rfl⟩
  obtain⟨la,hla⟩ : ∃la,L.last=la:=⟨_,rfl⟩
  rw[hlen] at hil HC k7
  rw[hba] at h1 k5 k6 hi HC
  rw[hla] at h2 HLOG
  have hidx:n - ba - 1=(i:Int):=by omega
  have hb1 : n ≤ 2000000000 := by have : la = ba + len := by rw [← hla, ← hba, ← hlen]; rfl
                                  omega
  have q1:decide (n≤ba)=false:=decide_eq_false (by omega)
  have q2:decide (la<n)=false:=decide_eq_false (by omega)
  have hil2:(i:Int)<(len:Int):=by omega
  have hpl:=heap_lt hl.box
  obtain⟨kd,tx,pg,pv,nx,key,had,has_,old,new⟩:=r
  clear hl hr hri hlen hba hla k1 k2 k3 k4 k8 hi
  obtain⟨c0,c1,c2,c3,c4,c5,c6⟩:=HC.out w (Below.refl _ _)
  clear c0 c1 c2 c4 c6
  go_enter Tryz.func23,Tryz.ntmps23
  go_wp2_with fail
  refine (HLOG.out _ (below_alloc (Below.refl _ _) _)).mono ?_
  rintro e w1 ⟨rfl,hb⟩
  have HB:=Aside0.mk (below_step (below_alloc (Below.refl w.heap.size w) _) hb)
  obtain⟨c0,c1,c2,c3',c4,c5',c6⟩:=HC.out w1 HB.out
  obtain⟨g,hA,hat⟩:=HAT.out w1 HB.out
  subst hA
  have m0:w1.cell? ⟨g,i*10,none⟩=some (.int .i64 kd):=hat 0 _ rfl
  have m1:=hat 1 _ rfl
  have m2:=hat 2 _ rfl
  have m3:=hat 3 _ rfl
  have m4:=hat 4 _ rfl
  have m5:=hat 5 _ rfl
  have m6:=hat 6 _ rfl
  have m7:=hat 7 _ rfl
  have m8:=hat 8 _ rfl
  have m9:=hat 9 _ rfl
  have hres:=(hb.block w.heap.size (by show _<(w.heap.push _).size;rw[Array.size_push];omega)).trans (heap_alloc_new w (.cells #[.int .i64 0,.int .i64 0,.int .i64 0,.int .i64 0,.int .i64 0,.int .i64 0,.bool false,.bool false,.int .i64 0,.int .i64 0] 46))
  have HRS:=Aside0.mk hres
  have z0:w1.cell? ⟨w.heap.size,0,none⟩=some (.int .i64 0):=by simp[World.cell?,hres]
  have z1:w1.cell? ⟨w.heap.size,1,none⟩=some (.int .i64 0):=by simp[World.cell?,hres]
  have z2:w1.cell? ⟨w.heap.size,2,none⟩=some (.int .i64 0):=by simp[World.cell?,hres]
  have z3:w1.cell? ⟨w.heap.size,3,none⟩=some (.int .i64 0):=by simp[World.cell?,hres]
  have z4:w1.cell? ⟨w.heap.size,4,none⟩=some (.int .i64 0):=by simp[World.cell?,hres]
  have z5:w1.cell? ⟨w.heap.size,5,none⟩=some (.int .i64 0):=by simp[World.cell?,hres]
  have z6:w1.cell? ⟨w.heap.size,6,none⟩=some (.bool false):=by simp[World.cell?,hres]
  have z7:w1.cell? ⟨w.heap.size,7,none⟩=some (.bool false):=by simp[World.cell?,hres]
  have z8:w1.cell? ⟨w.heap.size,8,none⟩=some (.int .i64 0):=by simp[World.cell?,hres]
  have z9:w1.cell? ⟨w.heap.size,9,none⟩=some (.int .i64 0):=by simp[World.cell?,hres]
  have zf : ∀j,w1.frozen? ⟨w.heap.size,j,none⟩=false:=fun j=>by simp[World.frozen?,hres]
  clear hat hb hres c0 c1 c2 c4 c6 HC HAT HLOG
  go_wp2_with fail
  go_region
  all_goals
    go_wp2_with fail
    have hcc:(((((((((w1.setCell ⟨w.heap.size,0,none⟩ (.int .i64 kd)).setCell ⟨w.heap.size,1,none⟩ (.int .i64 tx)).setCell ⟨w.heap.size,2,none⟩ (.int .i64 pg)).setCell ⟨w.heap.size,3,none⟩ (.int .i64 pv)).setCell ⟨w.heap.size,4,none⟩ (.int .i64 nx)).setCell ⟨w.heap.size,5,none⟩ (.int .i64 key)).setCell ⟨w.heap.size,6,none⟩ (.bool had)).setCell ⟨w.heap.size,7,none⟩ (.bool has_)).setCell ⟨w.heap.size,8,none⟩ (.int .i64 old)).setCell ⟨w.heap.size,9,none⟩ (.int .i64 new)=recPut w1 w.heap.size ⟨kd,tx,pg,pv,nx,key,had,has_,old,new⟩:=rfl
    rw[hcc]
    have hpx:=recPut_heap HRS.out ⟨kd,tx,pg,pv,nx,key,had,has_,old,new⟩
    have hbx:=recPut_below HB.out (Nat.le_refl _) ⟨kd,tx,pg,pv,nx,key,had,has_,old,new⟩
    obtain⟨wx,hwx⟩ : ∃wx,recPut w1 w.heap.size ⟨kd,tx,pg,pv,nx,key,had,has_,old,new⟩=wx:=⟨_,rfl⟩
    rw[hwx] at hpx hbx ⊢
    obtain⟨y0,y1,y2,y3,y4,y5,y6,y7,y8,y9⟩:=rec_cells hpx
    have HBX:=Aside0.mk hbx
    clear hcc hwx z0 z1 z2 z3 z4 z5 z6 z7 z8 z9 zf m0 m1 m2 m3 m4 m5 m6 m7 m8 m9 hpx hbx c3' c5'
    refine bodyPost_ret (v:=.tuple #[recV ⟨kd,tx,pg,pv,nx,key,had,has_,old,new⟩,.bool true]) ?_ ?_ ?_
    case refine_2=>rfl
    case refine_3=>exact⟨rfl,by repeat (first | exact HBX.out | apply below_drew1)⟩
    simp[results,Tryz.results23,go_sem,recV,recA,y0,y1,y2,y3,y4,y5,y6,y7,y8,y9]
end Go.Proofs.YtaplpeoikebedaaGreatDoor.WalR
namespace Go.Proofs.YtaplpeoikebedaaGreatDoor.ChainT
open Go.RowKit YtaplpeoikebedaaGreatDoorW.PrintWords YtaplpeoikebedaaGreatDoorW.PrintLast YtaplpeoikebedaaGreatDoorW.PrintMore
open See Mem Clone Go.Proofs.YtaplpeoikebedaaGreatDoor.Cell Page PageR Disk DiskN Pool1 Pool2 Num RecD Rec BlockB Pool3 Wal WalR StoreD
attribute [local go_sem] max2_imax min2_imin max_two min_two
theorem norm_nonneg {L:Lg}{n k:Int}(h:Norm L n k)(hb:0≤L.base):0≤n:=by
  cases h with
  | zero=>omega
  | set _ h1 _=>have:=recOf_lt h1;omega
  | begin _ h1 _=>have:=recOf_lt h1;omega
  | clr _ h1 _ _ _=>have:=recOf_lt h1;omega
  | end_ _ h1 _ _ _=>have:=recOf_lt h1;omega
theorem norm_step {L:Lg}{n k:Int}(h:Norm L n k):(n=0∧k=0)∨(n≠0∧∃r,recOf L n=some r∧((r.kind=2∧k=n)∨(r.kind=1∧k=0)∨(r.kind=3∧r.next<n∧Norm L r.next k)∨((r.kind=4∨r.kind=5)∧r.prev<n∧Norm L r.prev k))):=by
  cases h with
  | zero=>exact .inl ⟨rfl,rfl⟩
  | set h0 h1 h2=>exact .inr ⟨h0,_,h1,.inl ⟨h2,rfl⟩⟩
  | begin h0 h1 h2=>exact .inr ⟨h0,_,h1,.inr (.inl ⟨h2,rfl⟩)⟩
  | clr h0 h1 h2 h3 h4=>exact .inr ⟨h0,_,h1,.inr (.inr (.inl ⟨h2,h3,h4⟩))⟩
  | end_ h0 h1 h2 h3 h4=>exact .inr ⟨h0,_,h1,.inr (.inr (.inr ⟨h2,h3,h4⟩))⟩
theorem norm_calls (M:Nat→Prop)(lp dp:Nat)(v:Value)(L:Lg)(n k:Int)(w:World)(hl:LogM M w lp dp v L)(hn:Norm L n k) :
    Calls Tryz.prog 130 #[.pointer (some ⟨lp,0,none⟩),.int .i64 n] w fun e w'=>e = .returned (.tuple #[.int .i64 k,.nilIface])∧Below w.heap.size w w':=by
  have HB0:=Aside0.mk hl.ok.base.1
  have HREC:=Aside0.mk (fun (W:World) (m:Int) (r:RecV) (hb:Below w.heap.size w W) (hr:recOf L m=some r)=>rec_log M lp dp v L m r W (hl.below hb) hr)
  have HN:=Aside0.mk hn
  have hn0:=norm_nonneg hn hl.ok.base.1
  clear hl hn
  go_enter Tryz.func130,Tryz.ntmps130
  go_wp2_with fail
  go_loopg [1] (n.toNat+1) (fun kq v1 w' => ∃m:Int,v1 = .int .i64 m∧Aside0 (0≤m∧(kq:Int)=m+1)∧Aside0 (Norm L m k)∧Aside0 (Below w.heap.size w w'))
  case atStart=>exact⟨n,rfl,⟨by omega,by omega⟩,HN,⟨Below.refl _ _⟩⟩
  case round=>
    obtain⟨m,rfl,HM,HNM,HB⟩:=hrel
    have hm0:0≤m:=HM.out.1
    rcases norm_step HNM.out with ⟨h1,h2⟩ | ⟨h1,r,hr,hc⟩
    · subst h1 h2
      go_wp2_with fail
      exact bodyPost_ret (v:=.tuple #[.int .i64 0,.nilIface]) (by simp[results,Tryz.results130,go_sem]) rfl ⟨rfl,HB.out⟩
    · have q0:(m != 0)=true:=by rw[bne_iff_ne];exact h1
      have HR:=Aside0.mk hr
      clear hr
      go_wp2_with fail
      refine (HREC.out _ m r HB.out HR.out).mono ?_
      rintro e w1 ⟨rfl,hb⟩
      have HB1:=Aside0.mk (below_step HB.out hb)
      obtain⟨kd,tx,pg,pv,nx,key,had,has_,old,new⟩:=r
      simp only at hc
      clear hb
      simp only[recV,recA]
      rcases hc with ⟨hk,hkm⟩ | ⟨hk,hkm⟩ | ⟨hk,hlt,hnn⟩ | ⟨hk,hlt,hnn⟩
      · subst hk hkm
        go_wp2_with fail
        exact bodyPost_ret (v:=.tuple #[.int .i64 k,.nilIface]) (by simp[results,Tryz.results130,go_sem]) rfl ⟨rfl,by repeat (first | exact HB1.out | apply below_drew1 | apply below_alloc)⟩
      · subst hk hkm
        go_wp2_with fail
        exact bodyPost_ret (v:=.tuple #[.int .i64 0,.nilIface]) (by simp[results,Tryz.results130,go_sem]) rfl ⟨rfl,by repeat (first | exact HB1.out | apply below_drew1 | apply below_alloc)⟩
      · subst hk
        have HNN:=Aside0.mk hnn
        have hnz:=norm_nonneg hnn HB0.out
        have hd:decide (m≤nx)=false:=decide_eq_false (by omega)
        clear hnn
        go_wp2_with fail
        go_roundg (nx.toNat+1)
        case measure=>have:=HM.out;omega
        case rel=>exact⟨nx,rfl,⟨hnz,by omega⟩,HNN,⟨by repeat (first | exact HB1.out | apply below_drew1 | apply below_alloc)⟩⟩
      · rcases hk with rfl | rfl
        · have HNN:=Aside0.mk hnn
          have hnz:=norm_nonneg hnn HB0.out
          have hd:decide (m≤pv)=false:=decide_eq_false (by omega)
          clear hnn
          go_wp2_with fail
          go_roundg (pv.toNat+1)
          case measure=>have:=HM.out;omega
          case rel=>exact⟨pv,rfl,⟨hnz,by omega⟩,HNN,⟨by repeat (first | exact HB1.out | apply below_drew1 | apply below_alloc)⟩⟩
        · have HNN:=Aside0.mk hnn
          have hnz:=norm_nonneg hnn HB0.out
          have hd:decide (m≤pv)=false:=decide_eq_false (by omega)
          clear hnn
          go_wp2_with fail
          go_roundg (pv.toNat+1)
          case measure=>have:=HM.out;omega
          case rel=>exact⟨pv,rfl,⟨hnz,by omega⟩,HNN,⟨by repeat (first | exact HB1.out | apply below_drew1 | apply below_alloc)⟩⟩
end Go.Proofs.YtaplpeoikebedaaGreatDoor.ChainT
namespace Go.Proofs.YtaplpeoikebedaaGreatDoor.FwdM
open Go.RowKit Go.Maps YtaplpeoikebedaaGreatDoorW.PrintWords YtaplpeoikebedaaGreatDoorW.PrintLast YtaplpeoikebedaaGreatDoorW.PrintMore
open See Mem Page SysD SysM StoreD StoreF TransT LockT LockU SpaceT WaitT
attribute [local go_sem] max2_imax min2_imin max_two min_two
def fwCells (P blocks frames sess:Int)(lp pp:Nat)(kv tv:Value)(most:Int)(qp mp:Nat):Array Value:=
  #[.int .i64 P, .int .i64 blocks, .int .i64 frames, .int .i64 sess, .pointer (some ⟨lp, 0, none⟩), .pointer (some ⟨pp, 0, none⟩), kv, .map none, tv, .int .i64 most, .pointer (some ⟨qp, 0, none⟩), .map (some mp)]
def OfM (w:World)(mp:Nat)(m:Int)(of:Int→Int):Prop:=
  ∃(n:Nat) (D:DataW Unit),w.ownsMap Tryz.prog 3 (plainElem Tryz.prog 3) mp n D∧(n:Int)≤m∧∀s:Int,D.atKey (.int .i64 s) (.lit (.int .i64 0)) = .lit (.int .i64 (of s))
structure FwM (M:Nat→Prop) (w:World) (sp lp pp dp qp mp:Nat) (blocks frames:Int) (F:FS):Prop where
  box : ∃kv tv,w.heap[sp]? = some (.cells (fwCells F.P blocks frames F.sess lp pp kv tv F.most qp mp) 118 (0,0))∧LR w kv F.ks∧(∀k,kv.ownBlock=some k→M k)∧TR w tv F.ts∧(∀k,tv.ownBlock=some k→M k)
  sys:SysM M w pp lp dp F.S
  room:SpM w qp F.free F.kept
  of:OfM w mp F.most F.of
  low:M sp∧M qp∧M mp
theorem FwM.cells {M:Nat→Prop}{w:World}{sp lp pp dp qp mp:Nat}{blocks frames:Int}{F:FS}(h:FwM M w sp lp pp dp qp mp blocks frames F) :
    w.cell? ⟨sp,0,none⟩=some (.int .i64 F.P)∧w.cell? ⟨sp,3,none⟩=some (.int .i64 F.sess)∧w.cell? ⟨sp,4,none⟩=some (.pointer (some ⟨lp,0,none⟩))∧w.cell? ⟨sp,5,none⟩=some (.pointer (some ⟨pp,0,none⟩))∧w.cell? ⟨sp,7,none⟩=some (.map none)∧w.cell? ⟨sp,9,none⟩=some (.int .i64 F.most)∧w.cell? ⟨sp,10,none⟩=some (.pointer (some ⟨qp,0,none⟩))∧w.cell? ⟨sp,11,none⟩=some (.map (some mp)):=by
  obtain⟨kv,tv,hb,_⟩:=h.box
  refine⟨?_,?_,?_,?_,?_,?_,?_,?_⟩<;>simp[World.cell?,hb,fwCells]
theorem zero_int (w:World):(zeroValue 3).run Tryz.prog w = .ok (.int .i64 0) w:=by kernel_rfl
theorem OfM.below {w w':World}{mp:Nat}{m:Int}{of:Int→Int}(h:OfM w mp m of)(hb:Below w.heap.size w w'):OfM w' mp m of:=by
  obtain⟨n,D,⟨es,cl,h1,h2⟩,h3⟩:=h
  exact⟨n,D,⟨es,cl,(hb.block mp (heap_lt h1)).trans h1,h2⟩,h3⟩
theorem OfM.frm {T:List Nat}{M:Nat→Prop}{w w':World}{mp:Nat}{m:Int}{of:Int→Int}(h:OfM w mp m of)(hf:Frm T M w w')(h0:0∉T):OfM w' mp m of:=by
  obtain⟨n,D,⟨es,cl,h1,h2⟩,h3⟩:=h
  exact⟨n,D,⟨es,cl,(hf.block mp (heap_lt h1) (fun _=>by unfold tag;rw[h1];exact h0)).trans h1,h2⟩,h3⟩
theorem FwM.below {M:Nat→Prop}{w w':World}{sp lp pp dp qp mp:Nat}{blocks frames:Int}{F:FS}(h:FwM M w sp lp pp dp qp mp blocks frames F)(hb:Below w.heap.size w w'):FwM M w' sp lp pp dp qp mp blocks frames F:=by
  obtain⟨⟨kv,tv,b1,b2,b3,b4,b5⟩,s,r,o,l⟩:=h
  exact⟨⟨kv,tv,(hb.block sp (heap_lt b1)).trans b1,b2.below hb,b3,b4.below hb,b5⟩,s.below hb,r.below hb,o.below hb,l⟩
theorem txns_calls (M:Nat→Prop)(sp lp pp dp qp mp:Nat)(blocks frames:Int)(F:FS)(w:World)(h:FwM M w sp lp pp dp qp mp blocks frames F) :
    Calls Tryz.prog 28 #[.pointer (some ⟨sp,0,none⟩)] w fun e w' => ∃v',e = .returned v'∧TR w' v' F.ts∧Below w.heap.size w w':=by
  obtain⟨kv,tv,b1,b2,b3,b4,b5⟩:=h.box
  have hc:w.cell? ⟨sp,8,none⟩=some tv:=by simp[World.cell?,b1,fwCells]
  have HC:=Aside0.mk (tall_calls sp 8 tv F.ts w b4 hc)
  clear h b1 b2 b3 b4 b5 hc
  go_enter Tryz.func28,Tryz.ntmps28
  go_wp2_with fail
  refine HC.out.mono ?_
  rintro e w1 ⟨v1,rfl,ho,hb⟩
  have HO:=Aside0.mk ho
  have HB:=Aside0.mk hb
  obtain⟨A1,c1,rfl,_⟩:=ow_slice ho.1
  clear ho hb
  go_wp2_with fail
  go_ret
  exact⟨_,rfl,HO.out,HB.out⟩
theorem space_calls (M:Nat→Prop)(sp lp pp dp qp mp:Nat)(blocks frames:Int)(F:FS)(w:World)(h:FwM M w sp lp pp dp qp mp blocks frames F) :
    Calls Tryz.prog 17 #[.pointer (some ⟨sp,0,none⟩)] w fun e w'=>e = .returned (.tuple #[.int .i64 F.free,.int .i64 F.kept])∧Below w.heap.size w w':=by
  obtain⟨_,_,_,_,_,_,c10,_⟩:=h.cells
  have HR:=Aside0.mk h.room
  clear h
  go_enter Tryz.func17,Tryz.ntmps17
  go_wp2_with fail
  go_region_held3 (fun w'=>w'.cell? ⟨sp,10,none⟩=some (.pointer (some ⟨qp,0,none⟩)))
    (first | go_keep | exact hk1)
    (first
      | (go_at_call 59;refine (free_space qp F.free F.kept _ (by exact HR.out)).mono ?_;rintro e w1 ⟨rfl,rfl⟩;have hk1:=c10)
      | (go_at_call 60;refine (kept_space qp F.free F.kept _ (by exact HR.out)).mono ?_;rintro e w1 ⟨rfl,rfl⟩;have hk1:=c10))
  go_wp2_with fail
  exact bodyPost_ret (v:=.tuple #[.int .i64 F.free,.int .i64 F.kept]) (by simp[results,Tryz.results17,go_sem]) rfl ⟨rfl,by repeat (first | exact Below.refl _ _ | apply below_drew1)⟩
end Go.Proofs.YtaplpeoikebedaaGreatDoor.FwdM
namespace Go.Proofs.YtaplpeoikebedaaGreatDoor.FwdC
open Go.RowKit Go.Maps YtaplpeoikebedaaGreatDoorW.PrintWords YtaplpeoikebedaaGreatDoorW.PrintLast YtaplpeoikebedaaGreatDoorW.PrintMore
open See Mem Page Dirty SysD SysM StoreD StoreF TransT LockT LockU SpaceT WaitT FwdM
attribute [local go_sem] max2_imax min2_imin max_two min_two
theorem OfM.look {w:World}{mp:Nat}{m:Int}{of:Int→Int}(h:OfM w mp m of){s:Int}(h0 : -9223372036854775808≤s)(h1:s≤9223372036854775807) :
    (Instr.lookup 116 (.map (some mp)) (.int .i64 s) false).run Tryz.prog w = .ok (.int .i64 (of s)) w:=by
  obtain⟨n,D,hown,hn,hat⟩:=h
  obtain⟨c,hrun,hc,_⟩:=hown.lookup_int (int_keyed Tryz.underlying3) Tryz.underlying116 Tryz.underlying3 (zero_int w) (keyOf_int_mk Tryz.underlying3 (wf64 h0 h1))
  rw[hat s] at hc
  have hcc:of s=c:=by injection hc with hc;injection hc
  rw[hcc]
  exact hrun
def txPut (w:World)(b:Nat)(t:Tx):World:=(((w.setCell ⟨b,0,none⟩ (.int .i64 t.id)).setCell ⟨b,1,none⟩ (.int .i64 t.state)).setCell ⟨b,2,none⟩ (.int .i64 t.last)).setCell ⟨b,3,none⟩ (.int .i64 t.next)
theorem txPut_heap {w:World}{b:Nat}{x0 x1 x2 x3:Value}(h:w.heap[b]? = some (.cells #[x0,x1,x2,x3] 102 (0,0)))(t:Tx):(txPut w b t).heap[b]? = some (.cells #[.int .i64 t.id,.int .i64 t.state,.int .i64 t.last,.int .i64 t.next] 102 (0,0)):=by
  have h0:=heap_setCell_same w b 0 _ _ (.int .i64 t.id) h
  have h1:=heap_setCell_same _ b 1 _ _ (.int .i64 t.state) h0
  have h2:=heap_setCell_same _ b 2 _ _ (.int .i64 t.last) h1
  have h3:=heap_setCell_same _ b 3 _ _ (.int .i64 t.next) h2
  have e:((((#[x0,x1,x2,x3]:Array Value).setIfInBounds 0 (.int .i64 t.id)).setIfInBounds 1 (.int .i64 t.state)).setIfInBounds 2 (.int .i64 t.last)).setIfInBounds 3 (.int .i64 t.next) = #[.int .i64 t.id,.int .i64 t.state,.int .i64 t.last,.int .i64 t.next]:=by simp
  rw[e] at h3
  exact h3
theorem txPut_other {w:World}{b k:Nat}(h:k≠b)(t:Tx):(txPut w b t).heap[k]? = w.heap[k]? := by
  unfold txPut
  rw[Below.heap_setCell _ _ _ _ h,Below.heap_setCell _ _ _ _ h,Below.heap_setCell _ _ _ _ h,Below.heap_setCell _ _ _ _ h]
theorem txPut_below {B:Nat}{w w1:World}{b:Nat}(h:Below B w w1)(hb:B≤b)(t:Tx):Below B w (txPut w1 b t):=(((h.setCell hb _).setCell hb _).setCell hb _).setCell hb _
def z4:Obj:=.cells #[.int .i64 0,.int .i64 0,.int .i64 0,.int .i64 0] 102
theorem called_calls (M:Nat→Prop)(sp lp pp dp qp mp:Nat)(blocks frames:Int)(F:FS)(n:Int)(w:World)(h:FwM M w sp lp pp dp qp mp blocks frames F)(h0:0≤n)(h1:n<F.sess)(h2:F.sess≤1000)(hx:thas F.ts (F.of n)=true)(hr:Rising (kvT F.ts)) :
    Calls Tryz.prog 61 #[.pointer (some ⟨sp,0,none⟩),.int .i64 n] w fun e w'=>e = .returned (.tuple #[txV (tget F.ts (F.of n)),.nilIface])∧Below w.heap.size w w':=by
  have HF:=Aside0.mk (fun (W:World) (hb:Below w.heap.size w W)=>h.below hb)
  obtain⟨kv,tv,b1,_,_,b4,_⟩:=h.box
  have HG:=Aside0.mk (fun (W:World) (hb:Below w.heap.size w W)=>by
    have:=tget_calls sp 8 tv F.ts (F.of n) W (b4.below hb) hr (pw_cell_below hb (show w.cell? ⟨sp,8,none⟩=some tv by simp[World.cell?,b1,fwCells]))
    rw[hx] at this
    exact this)
  have hspl:=heap_lt b1
  obtain⟨x,hxx⟩ : ∃x,tget F.ts (F.of n)=x:=⟨_,rfl⟩
  obtain⟨c,hc⟩ : ∃c,F.of n=c:=⟨_,rfl⟩
  rw[hxx] at HG ⊢
  rw[hc] at HG
  obtain⟨sess,hsess⟩ : ∃s,F.sess=s:=⟨_,rfl⟩
  rw[hsess] at h1 h2
  obtain⟨W,hW⟩ : ∃W,w.alloc z4=W:=⟨_,rfl⟩
  have hWs:W.heap.size=w.heap.size+1:=by rw[←hW];show (w.heap.push _).size=_;rw[Array.size_push]
  have hBW:Below w.heap.size w W:=by rw[←hW];exact below_alloc (Below.refl _ _) _
  have hlk:=OfM.look (HF.out W hBW).of (s:=n) (by omega) (by omega)
  have hlk2:=OfM.look (HF.out (W.alloc z4) (below_alloc hBW _)).of (s:=n) (by omega) (by omega)
  have hlk3:=OfM.look (HF.out W.drew (below_drew1 hBW)).of (s:=n) (by omega) (by omega)
  have hlk4:=OfM.look (HF.out (W.alloc z4).drew (below_drew1 (below_alloc hBW _))).of (s:=n) (by omega) (by omega)
  have hlk5:=OfM.look (HF.out (W.drew.alloc z4) (below_alloc (below_drew1 hBW) _)).of (s:=n) (by omega) (by omega)
  rw[hc] at hlk hlk2 hlk3 hlk4 hlk5
  obtain⟨_,k3,_,_,k7,_,_,k11⟩:=(HF.out W hBW).cells
  obtain⟨_,_,_,_,_,_,_,j11⟩:=(HF.out (W.alloc z4) (below_alloc hBW _)).cells
  rw[hsess] at k3
  have hR0:W.heap[w.heap.size]? = some z4:=by rw[←hW];exact heap_alloc_new _ _
  have HW:=Aside0.mk hW
  have HBW:=Aside0.mk hBW
  have HR0:=Aside0.mk hR0
  have hd1:decide (n<0)=false:=decide_eq_false (by omega)
  have hd2:decide (sess≤n)=false:=decide_eq_false (by omega)
  have hspW:sp<W.heap.size:=by omega
  have HWS:=Aside0.mk hWs
  clear h b1 b4 hx hr hxx hc hsess hW hBW hR0 hWs
  go_enter Tryz.func61,Tryz.ntmps61
  go_wp2_with fail
  rw[show w.alloc (.cells #[.int .i64 0,.int .i64 0,.int .i64 0,.int .i64 0] 102)=W from HW.out]
  refine (wclear_nil sp 7 n _ k7 (by omega) (by omega)).mono ?_
  rintro e w' ⟨rfl,rfl⟩
  have HG2:=Aside0.mk (fun (V:World) (hb:Below w.heap.size w V) (b:Nat) (o:Obj) (hx:V.heap[b]? = some o)=>(HG.out V hb).mono (fun e w' h=>(⟨h.1,h.2,(h.2.block b (heap_lt hx)).trans hx⟩:e = .returned (.tuple #[txV x,.bool true])∧Below V.heap.size V w'∧w'.heap[b]? = some o)))
  obtain⟨xi,xs,xl,xn⟩:=x
  simp only[txV,z4] at *
  go_wp2_with fail
  go_region_law (first
    | (go_simp;go_at_call 113;refine (HG2.out _ (by repeat (first | exact HBW.out | apply below_drew1 | apply below_alloc)) W.heap.size _ (by exact heap_alloc_new W _)).mono ?_;rintro e w2 ⟨rfl,hb2,hbo⟩;obtain⟨o0,o1,o2,o3,g0,g1,g2,g3⟩:=tx_cells hbo)
    | (go_simp;go_at_call 113;refine (HG.out _ (by repeat (first | exact HBW.out | apply below_drew1 | apply below_alloc))).mono ?_;rintro e w2 ⟨rfl,hb2⟩))
  all_goals
    have hR2:w2.heap[w.heap.size]? = some (.cells #[.int .i64 0,.int .i64 0,.int .i64 0,.int .i64 0] 102 (0,0)):=by
      first
        | exact (hb2.block w.heap.size (by show _<(W.heap.push _).size;rw[Array.size_push,HWS.out];omega)).trans ((Below.heap_alloc W _ _ (by rw[HWS.out];omega)).trans HR0.out)
        | exact (hb2.block w.heap.size (by show _<W.heap.size;rw[HWS.out];omega)).trans HR0.out
    have hB2:Below w.heap.size w w2:=below_step (by repeat (first | exact HBW.out | apply below_drew1 | apply below_alloc)) hb2
    obtain⟨r0,r1,r2,r3,s0,s1,s2,s3⟩:=tx_cells hR2
    have hlt:=heap_lt hR2
    have hne1:W.heap.size≠w.heap.size:=by have:=HWS.out;omega
    have hne2:w.heap.size≠W.heap.size:=by have:=HWS.out;omega
    have HB2:=Aside0.mk hB2
    have hle:w.heap.size≤W.heap.size:=by have:=HWS.out;omega
    clear hb2 hB2 hlk hlk2 hlk3 hlk4 hlk5
    go_wp2_with fail
    first
      | (have hcc:(((((((w2.setCell ⟨W.heap.size,0,none⟩ (.int .i64 xi)).setCell ⟨W.heap.size,1,none⟩ (.int .i64 xs)).setCell ⟨W.heap.size,2,none⟩ (.int .i64 xl)).setCell ⟨W.heap.size,3,none⟩ (.int .i64 xn)).setCell ⟨w.heap.size,0,none⟩ (.int .i64 xi)).setCell ⟨w.heap.size,1,none⟩ (.int .i64 xs)).setCell ⟨w.heap.size,2,none⟩ (.int .i64 xl)).setCell ⟨w.heap.size,3,none⟩ (.int .i64 xn)=txPut (txPut w2 W.heap.size ⟨xi,xs,xl,xn⟩) w.heap.size ⟨xi,xs,xl,xn⟩:=rfl
         rw[hcc]
         have hp:=txPut_heap ((txPut_other hne2 ⟨xi,xs,xl,xn⟩).trans hR2) ⟨xi,xs,xl,xn⟩
         have hbw:=txPut_below (txPut_below HB2.out hle ⟨xi,xs,xl,xn⟩) (Nat.le_refl _) ⟨xi,xs,xl,xn⟩
         obtain⟨wx,hwx⟩ : ∃wx,txPut (txPut w2 W.heap.size ⟨xi,xs,xl,xn⟩) w.heap.size ⟨xi,xs,xl,xn⟩=wx:=⟨_,rfl⟩
         rw[hwx] at hp hbw ⊢)
      | (have hcc:(((w2.setCell ⟨w.heap.size,0,none⟩ (.int .i64 xi)).setCell ⟨w.heap.size,1,none⟩ (.int .i64 xs)).setCell ⟨w.heap.size,2,none⟩ (.int .i64 xl)).setCell ⟨w.heap.size,3,none⟩ (.int .i64 xn)=txPut w2 w.heap.size ⟨xi,xs,xl,xn⟩:=rfl
         rw[hcc]
         have hp:=txPut_heap hR2 ⟨xi,xs,xl,xn⟩
         have hbw:=txPut_below HB2.out (Nat.le_refl _) ⟨xi,xs,xl,xn⟩
         obtain⟨wx,hwx⟩ : ∃wx,txPut w2 w.heap.size ⟨xi,xs,xl,xn⟩=wx:=⟨_,rfl⟩
         rw[hwx] at hp hbw ⊢)
    have hlx:=heap_lt hp
    obtain⟨y0,y1,y2,y3,_,_,_,_⟩:=tx_cells hp
    have HBX:=Aside0.mk hbw
    clear hcc hwx hp hbw r0 r1 r2 r3 s0 s1 s2 s3 hR2
    refine bodyPost_ret (v:=.tuple #[.agg #[.int .i64 xi,.int .i64 xs,.int .i64 xl,.int .i64 xn],.nilIface]) ?_ ?_ ?_
    case refine_2=>rfl
    case refine_3=>exact⟨rfl,by repeat (first | exact HBX.out | apply below_drew1 | apply below_alloc)⟩
    simp[results,Tryz.results61,go_sem,y0,y1,y2,y3,hlx]
end Go.Proofs.YtaplpeoikebedaaGreatDoor.FwdC
