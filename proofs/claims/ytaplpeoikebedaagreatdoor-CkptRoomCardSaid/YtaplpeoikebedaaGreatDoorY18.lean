/- Joined texts: PoolS, FlushG, Num, Fresh, DirtD, SortI, PoolA, ErrD, TabL, DiskL. No condition but what each says. -/
import Derived.Test.YtaplpeoikebedaaGreatDoorY17
import Derived.Test.YtaplpeoikebedaaGreatDoorY13
import Derived.Test.YtaplpeoikebedaaGreatDoorY10
import Derived.Laws.MakeOwn
import Derived.Test.YtaplpeoikebedaaGreatDoorY7
import Derived.Shelf.Sort.Plain
import Derived.Shelf.Lay
import Derived.Sort.OwnSortedInts
import Derived.Test.YtaplpeoikebedaaGreatDoorY6
import Derived.Test.YtaplpeoikebedaaGreatDoorY15
import Derived.Test.YtaplpeoikebedaaGreatDoorY4
set_option maxHeartbeats 8000000
set_option maxRecDepth 100000
set_option linter.unusedVariables false
set_option linter.unusedSimpArgs false
namespace Go.Proofs.YtaplpeoikebedaaGreatDoor.PoolS
open Go.RowKit YtaplpeoikebedaaGreatDoorW.PrintWords YtaplpeoikebedaaGreatDoorW.PrintLast YtaplpeoikebedaaGreatDoorW.PrintMore
open See Mem Clone Go.Proofs.YtaplpeoikebedaaGreatDoor.Cell Page PageB PageR Disk DiskW DiskS RecD Pool1 Pool3 Wal WalF Dirty Dirty2 SysD SysM PoolF PoolE PoolG Del Rw
attribute [local go_sem] max2_imax min2_imin max_two min_two
theorem set_same {w:World}{b i e:Nat}{v:Value}{c:Array Value}(hb:w.heap[b]? = some (.cells c e (0,0)))(hc:c[i]? = some v):w.setCell ⟨b,i,none⟩ v=w:=by
  have hh:(w.setCell ⟨b,i,none⟩ v).heap=w.heap:=by
    apply Array.ext_getElem?
    intro k
    by_cases hk:k=b
    · subst hk
      rw[heap_setCell_same _ _ _ _ _ _ hb,hb]
      have:c.setIfInBounds i v=c:=by
        apply Array.ext_getElem?
        intro j
        rw[Array.getElem?_setIfInBounds]
        by_cases hj:i=j
        · subst hj
          have:=(Array.getElem?_eq_some_iff.1 hc).1
          simp[this,hc]
          exact (Array.getElem?_eq_some_iff.1 hc).2.symm
        · simp[hj]
      rw[this]
    · exact Below.heap_setCell _ _ _ _ (by exact hk)
  cases w
  simp only[World.setCell] at hh ⊢
  rw[hh]
theorem sys_turn {M:Nat→Prop}{w w1:World}{pp lp dp:Nat}{S:PSys}{t h:Value}{fs fs':List Fr}(x:SysM M w pp lp dp S)(ht:TabM M w pp (poolCells t dp lp S.frames h) t S.t)(hh:FrsP M w h fs S.here)
    (ho:w1.ownsRow 0 157 3 h fs'.length (frCells fs')) (hp : ∀f∈fs',P2 w1 169 f.v f.es) (hok:HereOk (fs'.map forget)) (hg:w.grownBy w1 h.ownBlock) :
    SysM (Gr M w w1) w1 pp lp dp { S with here:=fs'.map forget }∧Frm fTurn M w w1:=by
  have hpl:=heap_lt ht.box
  have hb1:w1.heap[pp]? = some (.cells (poolCells t dp lp S.frames h) 163 (0,0)):=(hg.block pp hpl (fun e=>frs_pool hh ht e.symm)).trans ht.box
  have:=sys_here x ht hh ho hp hok hg (.inl rfl)
  rw[set_same hb1 (by rfl)] at this
  exact this
theorem map_once {n:Int}{g:Fp} : ∀(here:List Fp) (i:Nat) (f:Fp),(here.Pairwise fun a b=>a.n≠b.n)→here[i]? = some f→f.n=n→here.map (fun x=>if x.n=n then g else x)=here.set i g
  | [],i,f,_,h,_=>by simp at h
  | x :: xs,0,f,ho,h,hn=>by
    simp at h
    subst h
    rw[List.pairwise_cons] at ho
    rw[List.map_cons,if_pos hn,List.set_cons_zero]
    congr 1
    refine (List.map_congr_left (g:=fun y=>y) fun y hy=>if_neg (fun e=>ho.1 y hy (hn.trans e.symm))).trans (by simp)
  | x :: xs,i+1,f,ho,h,hn=>by
    rw[List.pairwise_cons] at ho
    simp at h
    rw[List.map_cons,if_neg (fun e=>ho.1 f (List.mem_of_getElem? h) (e.trans hn.symm)),List.set_cons_succ,map_once xs i f ho.2 h hn]
theorem here_set {here:List Fp}{n lsn:Int}{es:List (Int×Int)}(h:HereOk here)(hk:pageOk lsn es=true):HereOk (here.map fun x=>if x.n=n then ⟨n,lsn,es⟩ else x):=by
  have hn : ∀x:Fp,(if x.n=n then (⟨n,lsn,es⟩:Fp) else x).n=x.n:=fun x=>by split<;>simp[*]
  refine⟨by simpa using h.few,?_,fun f hf => ?_⟩
  · rw[List.pairwise_map]
    exact h.once.imp fun {a b} hab=>by rw[hn,hn];exact hab
  · obtain⟨y,hy,rfl⟩:=List.mem_map.1 hf
    split
    · exact hk
    · exact h.ok y hy
theorem frCells_set : ∀(fs:List Fr) (i:Nat) (f:Fr) (l:Int) (v:Value) (es:List (Int×Int)),fs[i]? = some f→setL (frCells fs) (i*3+1) [.int .i64 l,v]=frCells (fs.set i ⟨f.n,l,v,es⟩)
  | [],i,f,l,v,es,h=>by simp at h
  | x :: xs,0,f,l,v,es,h=>by
    simp at h
    subst h
    simp[frCells,List.flatMap_cons,setL]
  | x :: xs,i+1,f,l,v,es,h=>by
    simp at h
    have ih:=frCells_set xs i f l v es h
    have e:frCells (x :: xs)=[.int .i64 x.n,.int .i64 x.lsn,x.v]++frCells xs:=by simp[frCells,List.flatMap_cons]
    have e2:frCells ((x :: xs).set (i+1) ⟨f.n,l,v,es⟩)=[.int .i64 x.n,.int .i64 x.lsn,x.v]++frCells (xs.set i ⟨f.n,l,v,es⟩):=by simp[frCells,List.flatMap_cons]
    rw[e,e2,←ih]
    rw[show (i+1)*3+1=i*3+1+1+1+1 from by omega]
    simp[setL,List.set_cons_succ]
theorem p2_grown {M:Nat→Prop}{w w1:World}{h:Value}{fs:List Fr}{here:List Fp}{v:Value}{es:List (Int×Int)}(hh:FrsP M w h fs here)(hg:w.grownBy w1 h.ownBlock)(hp:P2 w 169 v es):P2 w1 169 v es:=
  ⟨ow_move hp.1 fun j hj=>by
    obtain⟨_,c,hc⟩:=ow_block hp.1 hj
    refine hg.block j (heap_lt hc) fun e => ?_
    obtain⟨_,c2,hc2⟩:=ow_block hh.frs.row e.symm
    rw[hc2] at hc
    injection hc with hc;injection hc with _ hc
    exact absurd hc (by decide),hp.2⟩
theorem tab_keep {M:Nat→Prop}{p:Nat}{cs:Array Value}{ds:List (Int×Int)}{w w':World}{b:Nat}{u v:Value}(h:TabPost M p cs ds w w')(hb:w.heap[b]? = some (.cells #[u,v] 74 (0,0))):w'.cell? ⟨b,0,none⟩=some u:=by
  obtain⟨v',_,hf⟩:=h
  exact (page_cells (hf.at hb (.inl (by decide)))).1
def PSetPost (a:Nat→Addr)(M:Nat→Prop)(pp lp dp:Nat)(S:PSys)(n lsn:Int)(es:List (Int×Int))(w:World)(e:Ending)(w':World):Prop:=
  e = .returned (errv a (setS S n lsn es).2)∧SysM (Gr M w w') w' pp lp dp (setS S n lsn es).1∧Frm sTurn M w w'
theorem setS_none {S:PSys}{n lsn:Int}{es:List (Int×Int)}(h:findP S.here n=none):setS S n lsn es=(S,some 1):=by unfold setS;rw[h]
theorem setS_bad {S:PSys}{n lsn:Int}{es:List (Int×Int)}{f:Fp}(h:findP S.here n=some f)(hk:pageOk lsn es=false):setS S n lsn es=(S,some 1):=by unfold setS;rw[h];simp[hk]
theorem setS_ok {S:PSys}{n lsn:Int}{es:List (Int×Int)}{f:Fp}(h:findP S.here n=some f)(hk:pageOk lsn es=true):setS S n lsn es=({ S with here:=S.here.map fun g=>if g.n=n then ⟨n,lsn,es⟩ else g,t:=addT S.t n lsn },none):=by unfold setS;rw[h];simp[hk]
theorem addT_len (ds:List (Int×Int))(n f:Int):(addT ds n f).length≤ds.length+1:=by
  unfold addT
  split
  · omega
  · simp;omega
theorem set_pool (a:Nat→Addr)(M:Nat→Prop)(pp lp dp:Nat)(S:PSys)(n lsn:Int)(v:Value)(es:List (Int×Int))(w:World)(hs:Sents w a)(x:SysM M w pp lp dp S)(hp:P2 w 169 v es)(ht:S.t.length≤70000) :
    Calls Tryz.prog 129 #[.pointer (some ⟨pp,0,none⟩),.int .i64 n,.agg #[.int .i64 lsn,v]] w (PSetPost a M pp lp dp S n lsn es w):=by
  obtain⟨t,h,fs,htab,hh⟩:=x.pool
  have HTL:=Aside0.mk ht
  have HS:=Aside0.mk hs
  have HX:=Aside0.mk x
  have HT:=Aside0.mk htab
  have HH:=Aside0.mk hh
  have HP:=Aside0.mk hp
  have HIF:=Aside0.mk (idx_find n fs 0)
  obtain⟨A,cap,hv,_⟩:=ow_slice hh.frs.row
  obtain⟨fl,hfl⟩ : ∃fl,fs.length=fl:=⟨_,rfl⟩
  have hf8:fl≤8:=by rw[←hfl];exact hh.frs.few
  have HFLN:=Aside0.mk hfl
  rw[hfl] at hv
  obtain⟨Ae,ce,hve,_⟩:=ow_slice hp.1
  obtain⟨el,hel⟩ : ∃el,es.length=el:=⟨_,rfl⟩
  have HEL:=Aside0.mk hel
  rw[hel] at hve
  have hpl:=heap_lt htab.box
  have HAT:=Aside0.mk (fun W hf hc=>at_pool pp h fs n W hf hc)
  have HSAME:=Aside0.mk (show setS S n lsn es=(S,some 1)→∀w',Below w.heap.size w w'→PSetPost a M pp lp dp S n lsn es w (.returned (.iface 333 (.pointer (some (a 1))))) w' from fun h0 w' hb=>⟨by rw[h0];rfl,by rw[h0];exact (x.below hb).mono fun k hk=>.inl hk,Frm.of_below hb⟩)
  clear hs x hp htab hh ht hfl hel
  subst hv hve
  go_enter Tryz.func129,Tryz.ntmps129
  go_wp2_with fail
  refine (HAT.out _ (HH.out.frs.below (below_alloc (Below.refl _ _) _)) (by rw[World.cell?_alloc_lt _ _ _ (by exact hpl)];exact (pool_cells HT.out).2.2.2.2)).mono ?_
  rintro e w1 ⟨rfl,hb⟩
  have HBX:=Aside0.mk (show w1.heap[w.heap.size]? = some (.cells #[.int .i64 lsn,.slice Ae el ce] 74 (0,0)) from (hb.block w.heap.size (by simp)).trans (heap_alloc_new w _))
  have HB:=Aside0.mk (below_step (below_alloc (Below.refl w.heap.size w) _) hb)
  clear hb
  have HS1:=Aside0.mk (HS.out.below HB.out)
  have g1:w1.cell? ⟨6,0,none⟩=some (.iface 333 (.pointer (some (a 1)))):=HS1.out.cell 1 (by decide)
  rcases HIF.out with ⟨hn,hi⟩ | ⟨i,f,hfd,hfi,hfn,hi⟩
  · have HR:=Aside0.mk (show setS S n lsn es=(S,some 1) from setS_none (by rw[←HH.out.eq];exact hn))
    have hii:idxOf fs n = -1:=hi
    rw[hii]
    clear hn hi hii HIF
    go_wp2_with fail
    go_ret
    exact HSAME.out HR.out _ HB.out
  · have HFD:=Aside0.mk (show findP S.here n=some (forget f) by rw[←HH.out.eq];exact hfd)
    have HFI:=Aside0.mk hfi
    have hii:idxOf fs n=(i:Int):=by unfold idxOf;rw[hi];omega
    have hil:i<fl:=by rw[←HFLN.out];exact (List.getElem?_eq_some_iff.1 hfi).1
    have HFN:=Aside0.mk hfn
    rw[hii]
    clear hfd hfi hfn hi HIF hii
    obtain⟨q0,q1,q2,q3⟩:=page_cells HBX.out
    have hi0:(0:Int)≤(i:Int):=by omega
    go_wp2_with fail
    refine (check_calls a lsn _ es _ HS1.out (P2.below HP.out HB.out)).mono ?_
    rintro e w2 ⟨rfl,hb⟩
    have HB2:=Aside0.mk hb
    have HB20:=Aside0.mk (below_step HB.out hb)
    have HBX2:=Aside0.mk (show w2.heap[w.heap.size]? = some (.cells #[.int .i64 lsn,.slice Ae el ce] 74 (0,0)) from (hb.block w.heap.size (heap_lt HBX.out)).trans HBX.out)
    clear hb q0 q1 q2 q3 g1
    cases hok:pageOk lsn es with
    | false=>
      have HR:=Aside0.mk (setS_bad HFD.out hok)
      have hce:checkE lsn es=some 1:=by unfold checkE;rw[hok];rfl
      rw[hce,show errv a (some 1) = .iface 333 (.pointer (some (a 1))) from rfl]
      clear hce hok
      go_wp2_with fail
      go_ret
      exact HSAME.out HR.out _ HB20.out
    | true=>
      have HR:=Aside0.mk (setS_ok HFD.out hok)
      have HOK:=Aside0.mk hok
      have hce:checkE lsn es=none:=by unfold checkE;rw[hok];rfl
      rw[hce,show errv a none = .nilIface from rfl]
      clear hce hok
      have hh2:=HH.out.below HB20.out
      obtain⟨_,_,_,_,g4⟩:=pool_cells (HT.out.below HB20.out)
      obtain⟨g,hA,hll,d0,d1,d2,A',c',hfv⟩:=hh2.frs.at HFI.out
      subst hA
      obtain⟨q0,q1,q2,q3⟩:=page_cells HBX2.out
      have hgl:=World.block_lt_of_cell? _ _ d1
      simp only at hgl
      obtain⟨_,cur,hcur⟩:=ow_block hh2.frs.row (show (Value.slice (some ⟨g,0,none⟩) fl cap).ownBlock=some g from rfl)
      have hgn1:pp≠g:=fun e=>by subst e;exact frs_pool HH.out HT.out rfl
      have hgn2:g≠pp:=fun e=>hgn1 e.symm
      have hgw:g<w.heap.size:=by obtain⟨_,c,hc⟩:=ow_block HH.out.frs.row (show (Value.slice (some ⟨g,0,none⟩) fl cap).ownBlock=some g from rfl);exact heap_lt hc
      have hgn3:w.heap.size≠g:=by omega
      have hgn4:g≠w.heap.size:=by omega
      have e1:w2.frozen? ⟨g,i*3+1,none⟩=false:=by simp[World.frozen?,hcur]
      have e2:w2.frozen? ⟨g,i*3+2,none⟩=false:=by simp[World.frozen?,hcur]
      have hz2:w.heap.size<w2.heap.size:=heap_lt HBX2.out
      have hpl2:pp<w2.heap.size:=by omega
      rw[hfv] at d2
      clear hh2 hll d0 hcur hfv
      go_wp2_with fail
      go_region_held3 (fun w'=>w'.cell? ⟨w.heap.size,0,none⟩=some (.int .i64 lsn)∧w'.cell? ⟨w.heap.size,1,none⟩=some (.slice Ae el ce)∧w'.cell? ⟨pp,4,none⟩=some (.slice (some ⟨g,0,none⟩) fl cap))
        (refine⟨?_,?_,?_⟩<;>(first | go_keep | exact hk1 | exact hk2 | exact hk3 | (rw[World.cell?_setCell_other _ _ _ _ (by simp[hgn1,hgn2,hgn3,hgn4]),World.cell?_setCell_other _ _ _ _ (by simp[hgn1,hgn2,hgn3,hgn4])];first | exact hk1 | exact hk2 | exact hk3)))
        (first | (go_at_call 91;refine (own_calls lsn _ es _ (P2.below HP.out (below_step HB20.out (by repeat (first | exact Below.refl _ _ | apply below_drew1 | apply below_alloc))))).mono ?_;rintro e w3 ⟨v3,rfl,hp3,hb⟩;obtain⟨A3,c3,rfl,_⟩:=ow_slice hp3.1;have hk1:w3.cell? ⟨w.heap.size,0,none⟩=some (.int .i64 lsn):=pw_cell_below hb q0;have hk2:w3.cell? ⟨w.heap.size,1,none⟩=some (.slice Ae el ce):=pw_cell_below hb q1;have hk3:w3.cell? ⟨pp,4,none⟩=some (.slice (some ⟨g,0,none⟩) fl cap):=pw_cell_below hb g4;have d3:w3.cell? ⟨g,i*3+1,none⟩=some (.int .i64 f.lsn):=pw_cell_below hb d1;have d4:w3.cell? ⟨g,i*3+2,none⟩=some (.slice A' f.es.length c'):=pw_cell_below hb d2;have e3:w3.frozen? ⟨g,i*3+1,none⟩=false:=(hb.frozen (p:=⟨g,i*3+1,none⟩) (by exact hgl)).trans e1;have e4:w3.frozen? ⟨g,i*3+2,none⟩=false:=(hb.frozen (p:=⟨g,i*3+2,none⟩) (by exact hgl)).trans e2))
      have HP3:=Aside0.mk hp3
      have HB3:=Aside0.mk (show Below w2.heap.size w2 w3 from below_step (by repeat (first | exact Below.refl _ _ | apply below_drew1 | apply below_alloc)) hb)
      have HB30:=Aside0.mk (below_step HB20.out HB3.out)
      have HR3:=Aside0.mk (show w3.ownsRow 0 157 3 (.slice (some ⟨g,0,none⟩) fl cap) fl (frCells fs) from by have h:=(HH.out.below HB30.out).frs.row;rw[HFLN.out] at h;exact h)
      obtain⟨ho,hg⟩:=own_setCells [.int .i64 lsn,.slice A3 es.length c3] (i*3+1) w3 _ HR3.out
      have hmap:(fs.set i (⟨f.n,lsn,.slice A3 es.length c3,es⟩:Fr)).map forget=S.here.map fun g=>if g.n=n then ⟨n,lsn,es⟩ else g:=by
        have hhi:S.here[i]? = some (forget f):=by rw[←HH.out.eq,List.getElem?_map,HFI.out];rfl
        rw[map_once S.here i (forget f) HX.out.here.once hhi HFN.out,List.map_set,HH.out.eq]
        show S.here.set i ⟨f.n,lsn,es⟩=_
        rw[HFN.out]
      have HSY:=Aside0.mk (sys_turn (HX.out.below HB30.out) (HT.out.below HB30.out) (HH.out.below HB30.out) (fs':=fs.set i (⟨f.n,lsn,.slice A3 es.length c3,es⟩:Fr)) (by
        rw[List.length_set,HFLN.out,←frCells_set fs i f lsn (.slice A3 es.length c3) es HFI.out]
        exact ho) (fun q hq=>by
        rcases List.mem_or_eq_of_mem_set hq with hq | rfl
        · exact p2_grown (HH.out.below HB30.out) hg ((HH.out.below HB30.out).frs.pages q hq)
        · exact p2_grown (HH.out.below HB30.out) hg HP3.out) (by rw[hmap];exact here_set HX.out.here HOK.out) hg)
      rw[hmap] at HSY
      clear hmap
      have hsz:(w3.setCells g (i*3+1) [.int .i64 lsn,.slice A3 es.length c3]).heap.size=w3.heap.size:=Del.setCells_size _ _
      have hcc:(w3.setCell ⟨g,i*3+1,none⟩ (.int .i64 lsn)).setCell ⟨g,i*3+1+1,none⟩ (.slice A3 es.length c3)=w3.setCells g (i*3+1) [.int .i64 lsn,.slice A3 es.length c3]:=rfl
      rw[hcc]
      obtain⟨wz,hwz⟩ : ∃wz,w3.setCells g (i*3+1) [.int .i64 lsn,.slice A3 es.length c3]=wz:=⟨_,rfl⟩
      rw[hwz] at HSY hsz ⊢
      have HBZ:=Aside0.mk (show wz.heap[w.heap.size]? = some (.cells #[.int .i64 lsn,.slice Ae el ce] 74 (0,0)) from HSY.out.2.at ((HB3.out.block _ (heap_lt HBX2.out)).trans HBX2.out) (.inl (by decide)))
      have HXZ:=Aside0.mk (show SysM (Gr M w wz) wz pp lp dp { S with here:=S.here.map fun g=>if g.n=n then ⟨n,lsn,es⟩ else g } from HSY.out.1.mono fun k hk=>by
        rcases hk with hk | ⟨h1,h2⟩
        · exact .inl hk
        · exact .inr ⟨by have:=HB30.out.size;omega,h2⟩)
      have HFZ:=Aside0.mk (show Frm sTurn M w wz from (Frm.of_below HB30.out).trans (frm_sys4 HSY.out.2))
      obtain⟨t6,h6,fs6,ht6,hh6⟩:=HXZ.out.pool
      have HT6:=Aside0.mk ht6
      have HH6:=Aside0.mk hh6
      obtain⟨r0,r1,_,_⟩:=page_cells HBZ.out
      clear ht6 hh6 hwz hcc ho hg hp3 hb hk1 hk2 hk3 d1 d2 d3 d4 e1 e2 e3 e4 q0 q1 q2 q3 g4 hsz hgl hz2 hpl2
      go_wp2_with fail
      go_region_held3 (fun w'=>w'.cell? ⟨w.heap.size,0,none⟩=some (.int .i64 lsn))
        (first | go_keep | exact hk1)
        (first | (go_at_call 189;refine (add_calls (Gr M w wz) pp _ t6 S.t n lsn wz.drew (HT6.out.below (below_drew1 (Below.refl _ _))) (by have:=HTL.out;omega)).mono ?_;rintro e w7 ⟨rfl,hp7⟩;have hk1:w7.cell? ⟨w.heap.size,0,none⟩=some (.int .i64 lsn):=tab_keep hp7 (show wz.drew.heap[w.heap.size]? = _ from HBZ.out)))
      have hXD:SysM (Gr M w wz) wz.drew pp lp dp { S with here:=S.here.map fun g=>if g.n=n then ⟨n,lsn,es⟩ else g }:=HXZ.out.below (below_drew1 (Below.refl _ _))
      obtain⟨hx7,hf7⟩:=hXD.tabs (HT6.out.below (below_drew1 (Below.refl _ _))) (HH6.out.below (below_drew1 (Below.refl _ _))) hp7 (Nat.le_trans (addT_len _ _ _) (by have:=HTL.out;show S.t.length+1≤80000;omega))
      have HX7:=Aside0.mk hx7
      have HF7:=Aside0.mk hf7
      clear hx7 hf7 hp7 hXD
      go_wp2_with fail
      go_ret
      have hzz:=HFZ.out.size
      have hz7:=HF7.out.size
      refine⟨by rw[HR.out];rfl,?_,HFZ.out.drew.transG ?_⟩
      · rw[HR.out]
        exact HX7.out.mono fun k hk=>by
          rcases hk with (hk | ⟨h1,h2⟩) | ⟨h1,h2⟩
          · exact .inl hk
          · exact .inr ⟨h1,Nat.lt_of_lt_of_le h2 hz7⟩
          · exact .inr ⟨Nat.le_trans hzz h1,h2⟩
      · exact frm_sys3 HF7.out
end Go.Proofs.YtaplpeoikebedaaGreatDoor.PoolS
namespace Go.Proofs.YtaplpeoikebedaaGreatDoor.FlushG
open Go.RowKit See Mem Clone Go.Proofs.YtaplpeoikebedaaGreatDoor.Cell Page PageB PageR PageL Disk DiskN DiskW RecD Dirty SysD SysM Wal WalF GoodD PoolS
theorem flush_good {S:PSys}{n:Nat}{k:Int}{f:Fp}(hg:GoodD.Good S.d n)(hf:findP S.here k=some f)(h0:0≤k)(h1:k<n)(ht:has S.t k=true)(hL:0≤S.l.first)(hr:S.l.first*6+S.l.l.length≤n*6)(hd:S.l.done≤S.l.l.length)(hes:f.es.length≤20) :
    ∃S',flushS S k=(S',none)∧GoodD.Good S'.d n∧(∀j,j<S.l.first→readV S'.d j=if j=k then pageBytes f.lsn f.es else readV S.d j)∧S'.t=dropT S.t k∧S'.here=S.here∧S'.frames=S.frames∧S'.l=(if S.l.doneN<f.lsn then { S.l with done:=S.l.l.length } else S.l)∧(∀m,FuseOk S.d→LooseLe S.d m→LooseLe S'.d (m+S.l.l.length+2)):=by
  unfold flushS
  rw[hf]
  simp only[ht,Bool.true_eq_false,if_false]
  by_cases hdl:S.l.doneN<f.lsn
  · rw[if_pos hdl,if_pos hdl]
    obtain⟨a1,a2,a3,a4⟩:=hg.lflush hL hr hd
    obtain⟨w1,w2,w3⟩:=a3.write (i:=k) (b:=pageBytes f.lsn f.es) h0 h1 (pageBytes_ok _ _ hes).1
    simp only[a2,w1]
    refine⟨_,rfl,w2,fun j hj => ?_,rfl,rfl,rfl,a1,fun m hfu hlo => ?_⟩
    · rw[w3 j,a4 j hj]
    · have:=writeD_loose k (pageBytes f.lsn f.es) (lflush_ok (L:=S.l) hfu hlo).2.1
      exact this.mono (by omega)
  · rw[if_neg hdl,if_neg hdl]
    obtain⟨w1,w2,w3⟩:=hg.write (i:=k) (b:=pageBytes f.lsn f.es) h0 h1 (pageBytes_ok _ _ hes).1
    simp only[w1]
    refine⟨_,rfl,w2,fun j hj=>w3 j,rfl,rfl,rfl,rfl,fun m hfu hlo => ?_⟩
    exact (writeD_loose k (pageBytes f.lsn f.es) hlo).mono (by omega)
theorem append_room {L:Lg}{r:RecV}(hr:recOk r=true)(hm:1≤L.room):appendE L r=none∧appendN L r=L.last+1∧appendL L r={ L with l:=L.l++[r] }:=by
  unfold appendE appendN appendL
  rw[if_pos hr,if_pos hr,if_pos hr,if_neg (by omega),if_neg (by omega),if_neg (by omega)]
  exact⟨rfl,rfl,rfl⟩
theorem sys_log {M:Nat→Prop}{w w':World}{pp lp dp:Nat}{S:PSys}{L':Lg}(x:SysM M w pp lp dp S)(hl : ∃v,LogM (Gr M w w') w' lp dp v L')(hf:Frm lTurn M w w'):SysM (Gr M w w') w' pp lp dp { S with l:=L' }∧Frm sTurn M w w':=by
  have h2:Frm (dTurn++lTurn) M w w':=frm_app2 hf
  exact⟨x.logd ((x.dsk.frm hf (by decide)).mono fun k hk=>.inl hk) hl h2 x.fuse,frm_sys2 h2⟩
end Go.Proofs.YtaplpeoikebedaaGreatDoor.FlushG
namespace Go.Proofs.YtaplpeoikebedaaGreatDoor.Num
open Go.RowKit YtaplpeoikebedaaGreatDoorW.PrintWords YtaplpeoikebedaaGreatDoorW.PrintLast YtaplpeoikebedaaGreatDoorW.PrintMore
open See Mem Clone Go.Proofs.YtaplpeoikebedaaGreatDoor.Cell Page PageB PageR Disk DiskN Pool1 Pool2
theorem tmod_lo (x b:Int)(h:0<b)(hn:Int.tmod x b<0):x % b=Int.tmod x b+b:=by
  have h1:=Int.tmod_lt_of_pos x h
  have h2:=Int.lt_tmod_of_pos x h
  have hm:(Int.tmod x b) % b=x % b:=by
    rw[Int.tmod_eq_emod]
    split
    · simp
    · rw[show ((b.natAbs:Int))=b from by omega];simp
  rw[←hm,←Int.add_emod_right,Int.emod_eq_of_lt (by omega) (by omega)]
theorem tmod_hi (x b:Int)(h:0<b)(hn : ¬Int.tmod x b<0):x % b=Int.tmod x b:=by
  have h1:=Int.tmod_lt_of_pos x h
  have hm:(Int.tmod x b) % b=x % b:=by
    rw[Int.tmod_eq_emod]
    split
    · simp
    · rw[show ((b.natAbs:Int))=b from by omega];simp
  rw[←hm,Int.emod_eq_of_lt (by omega) (by omega)]
theorem num_calls (x b:Int)(hb:0<b)(hb2:b≤4294967296)(w:World):Calls Tryz.prog 16 #[.int .i64 x,.int .i64 b] w fun e w'=>e = .returned (.int .i64 (x % b))∧w=w':=by
  have h1:=Int.tmod_lt_of_pos x hb
  have h2:=Int.lt_tmod_of_pos x hb
  have hz:(b == 0)=false:=by simp;omega
  by_cases h:Int.tmod x b<0
  · rw[tmod_lo x b hb h]
    go_enter Tryz.func16,Tryz.ntmps16
    go_wp2
    go_ret
    exact⟨by simp,rfl⟩
  · rw[tmod_hi x b hb h]
    go_enter Tryz.func16,Tryz.ntmps16
    go_wp2
    go_ret
    exact⟨by simp,rfl⟩
theorem num_at (x b r:Int)(hb:0<b)(hb2:b≤4294967296)(hr:x % b=r)(w:World):Calls Tryz.prog 16 #[.int .i64 x,.int .i64 b] w fun e w'=>e = .returned (.int .i64 r)∧w=w':=by
  subst hr;exact num_calls x b hb hb2 w
def IR (w:World)(v:Value)(xs:List Int):Prop:=Rd w 3 1 v xs.length (xs.map (.int .i64))
theorem IR.below {w w':World}{v:Value}{xs:List Int}(h:IR w v xs)(hb:Below w.heap.size w w'):IR w' v xs:=Rd.below h hb
theorem IR.of {w:World}{b:Nat}{v:Value}{xs:List Int}(h:IS w b v xs)(hl:xs.length≤1000000):IR w v xs:=Rd.of_own h hl
theorem IR.at {w:World}{A:Option Addr}{n c:Nat}{xs:List Int}(h:IR w (.slice A n c) xs){i:Nat}{x:Int}(hx:xs[i]? = some x) : ∃g o,A=some ⟨g,o,none⟩∧n=xs.length∧w.cell? ⟨g,o+i,none⟩=some (.int .i64 x):=by
  have hl:=(List.getElem?_eq_some_iff.1 hx).1
  rcases h.2.2 with ⟨_,h0⟩ | ⟨g,o,cap,cur,fz,hv,hh,hnc,hcm,hsz,htk⟩
  · omega
  · injection hv with h1 h2 h3
    subst h1 h2 h3
    refine⟨g,o,rfl,rfl,?_⟩
    have:(xs.map (Value.int .i64))[i]? = some (.int .i64 x):=by rw[List.getElem?_map,hx];rfl
    rw[←htk,List.getElem?_take,if_pos (by omega),List.getElem?_drop] at this
    simp[World.cell?,hh,←this]
end Go.Proofs.YtaplpeoikebedaaGreatDoor.Num
namespace Go.Proofs.YtaplpeoikebedaaGreatDoor.Fresh
open Go.RowKit YtaplpeoikebedaaGreatDoorW.PrintWords YtaplpeoikebedaaGreatDoorW.PrintLast YtaplpeoikebedaaGreatDoorW.PrintMore
open See Mem Clone Go.Proofs.YtaplpeoikebedaaGreatDoor.Cell Page PageB PageR PageL Disk DiskN DiskW DiskS RecD Pool1 Pool2 Pool3 Wal WalF Dirty Dirty2 SysD SysM PoolF PoolE PoolG PoolS Num Del
attribute [local go_sem] max2_imax min2_imin max_two min_two
def lg0 (f b:Int):Lg:=⟨f,b,0,1,[],0⟩
def sys0 (n:Nat)(f b:Int)(frames:Int):PSys:=⟨zdisk n,lg0 f b,[],frames,[]⟩
theorem lg0_ok {f b:Int}(h1:0≤f∧f≤1000)(h2:0≤b∧b≤1000):(lg0 f b).Ok:=
  ⟨h1,h2,⟨Int.le_refl 0,by show (0:Int)≤_;omega⟩,⟨Int.le_refl 1,by show (1:Int)≤_;omega⟩,by show ((([]:List RecV).length:Nat):Int)≤b*6;simp;omega,by show (0:Int)+((([]:List RecV).length:Nat):Int)≤_;simp,Nat.le_refl 0,fun r hr=>by cases hr⟩
theorem sys0_mem {M:Nat→Prop}{w:World}{pp lp dp n:Nat}{f b frames:Int}(hd:DskM M w dp (zdisk n))(hl:w.heap[lp]? = some (.cells (logCells dp f b 0 1 (.slice none 0 0) 0) 121 (0,0)))
    (hp:w.heap[pp]? = some (.cells (poolCells (.slice none 0 0) dp lp frames (.slice none 0 0)) 163 (0,0))) (h1:0≤f∧f≤1000) (h2:0≤b∧b≤1000) (h3:1≤frames∧frames≤8) (ml:M lp) (mp:M pp) :
    SysM M w pp lp dp (sys0 n f b frames):=
  ⟨hd,⟨.slice none 0 0,hl,World.ownsRow_nil _ _ _ _,fun k hk=>by simp[Value.ownBlock] at hk,ml,lg0_ok h1 h2⟩,
    ⟨.slice none 0 0,.slice none 0 0,[],⟨hp,rfl,P2.nil _ _,fun k hk=>by simp[Value.ownBlock] at hk,mp,by unfold Rising sys0;simp⟩,⟨⟨World.ownsRow_nil _ _ _ _,fun f hf=>(List.not_mem_nil hf).elim,by simp⟩,rfl,fun k hk=>by simp[Value.ownBlock] at hk⟩⟩,
    by unfold FuseOk;show (-1:Int)≤-1∧(-1:Int)≤_;omega,⟨by simp[sys0],List.Pairwise.nil,fun f hf=>by cases hf⟩,by simp[sys0],h3⟩
theorem zdisk_loose (n m:Nat):LooseLe (zdisk n) m:=fun s hs=>by
  have:=List.eq_of_mem_replicate hs
  rw[this]
  exact Nat.zero_le _
theorem read_zero:readPage (List.replicate 256 0)=some (0,[]):=by decide +kernel
theorem readE_zero {n:Nat}{i:Int}(h0:0≤i)(h1:i<n):readE (zdisk n) i=none∧readV (zdisk n) i=List.replicate 256 0:=by
  have hi:inD (zdisk n) i=true:=by unfold inD zdisk;simp;omega
  have hl:(zdisk n).l[i.toNat]? = some zsec:=by
    show (List.replicate n zsec)[i.toNat]? = _
    rw[List.getElem?_replicate,if_pos (by omega)]
  exact readE_in rfl hi hl
theorem dirty_pool {M:Nat→Prop}{w:World}{pp lp dp:Nat}{S:PSys}(x:SysM M w pp lp dp S) :
    Calls Tryz.prog 96 #[.pointer (some ⟨pp,0,none⟩)] w fun e w' => ∃v',e = .returned v'∧P2 w' 288 v' S.t∧Below w.heap.size w w':=by
  obtain⟨t,h,fs,ht,hh⟩:=x.pool
  have HC:=Aside0.mk (all_calls M pp _ t S.t w ht)
  clear ht hh x
  go_enter Tryz.func96,Tryz.ntmps96
  go_wp2_with fail
  refine HC.out.mono ?_
  rintro e w1 ⟨v1,rfl,hp,hb⟩
  have HP:=Aside0.mk hp
  have HB:=Aside0.mk hb
  clear hp hb
  go_wp2_with fail
  go_ret
  exact⟨_,rfl,HP.out,HB.out⟩
end Go.Proofs.YtaplpeoikebedaaGreatDoor.Fresh
namespace Go.Proofs.YtaplpeoikebedaaGreatDoor.DirtD
open Go.RowKit See Mem Clone Go.Proofs.YtaplpeoikebedaaGreatDoor.Cell Page PageB PageR PageL Disk DiskN DiskW RecD Dirty SysD SysM Wal WalF GoodD PoolS FlushG Fresh
def r0:RecV:=⟨7,0,0,0,0,0,false,false,0,0⟩
def S1 (S:PSys):PSys:={ S with l:={ S.l with l:=S.l.l++[r0] } }
def S2 (i fm:Int)(S:PSys):PSys:={ S1 S with here:=[⟨3,i,[]⟩],t:=[(3,if fm=0 then i else fm)] }
end Go.Proofs.YtaplpeoikebedaaGreatDoor.DirtD
namespace Go.Proofs.YtaplpeoikebedaaGreatDoor.SortI
open Go.RowKit Go.Sort Go.Shelf Go.Proofs See Mem Pool2
shelf_lay Lays.n189 Nm 189 at Tryz as lays189
def sortI (xs:List Int):List Int:=xs.mergeSort fun x y=>decide (x≤y)
theorem sortI_len (xs:List Int):(sortI xs).length=xs.length:=by unfold sortI;exact List.length_mergeSort xs
theorem sort_some (b g n c:Nat)(xs:List Int)(w:World)(h:IS w b (.slice (some ⟨g,0,none⟩) n c) xs)(hn:n=xs.length)(hm:xs.length≤1000000) :
    Calls Tryz.prog 154 #[.slice (some ⟨g,0,none⟩) n c] w fun e w'=>e = .returned (.tuple #[])∧IS w' b (.slice (some ⟨g,0,none⟩) n c) (sortI xs)∧w.grownBy w' (some g):=by
  subst hn
  rcases h.2 with ⟨h1,_⟩ | ⟨g',cap,cur,hv,hg,hh,hnc,hcm,hsz,htk⟩
  · cases h1
  · injection hv with h1 h2 h3
    injection h1 with h1;injection h1 with h1
    subst h1 h3
    have hH:=holds_of_blockI (ss:=xs) hh (by simpa using htk)
    have hgl:=heap_lt hh
    refine (Any.slices_Sort_int lays189 g 0 c xs w hH hgl (by omega)).mono ?_
    rintro e w' ⟨rfl,k,os,rfl⟩
    refine⟨rfl,?_,grownBy_sortedI _⟩
    unfold IS
    rw[sortI_len]
    exact ownsRow_sortedI (sortI_len xs) hg hh hnc hcm hsz
theorem len64_zero (w:World):Calls Tryz.prog 231 #[.int .u64 0] w fun e w' => ∃y,e = .returned (.int .i64 y)∧w=w':=by
  go_enter Tryz.func231,Tryz.ntmps231
  go_wp2
  go_ret
  exact⟨_,rfl,rfl⟩
theorem len_zero (w:World):Calls Tryz.prog 202 #[.int .u64 0] w fun e w' => ∃y,e = .returned (.int .i64 y)∧w=w':=by
  go_enter Tryz.func202,Tryz.ntmps202
  go_wp2_with fail
  refine (len64_zero _).mono ?_
  rintro e w' ⟨y,rfl,rfl⟩
  go_wp2_with fail
  go_ret
  exact⟨_,rfl,rfl⟩
theorem ins_nil (w:World):Calls Tryz.prog 221 #[.slice none 0 0,.int .i64 0,.int .i64 0] w fun e w'=>e = .returned (.tuple #[])∧w=w':=by
  go_enter Tryz.func221,Tryz.ntmps221
  go_wp2_with fail
  go_loopg [6] 1 (fun kq v6 w'=>v6 = .int .i64 1∧w'=w)
  case atStart=>exact⟨rfl,rfl⟩
  case round=>
    obtain⟨rfl,rfl⟩:=hrel
    go_wp2_with fail
    exact bodyPost_end (v:=.tuple #[]) (by simp[results,Tryz.results221,go_sem]) rfl ⟨rfl,rfl⟩
theorem pdq_nil (y:Int)(w:World):Calls Tryz.prog 201 #[.slice none 0 0,.int .i64 0,.int .i64 0,.int .i64 y] w fun e w'=>e = .returned (.tuple #[])∧w=w':=by
  go_enter Tryz.func201,Tryz.ntmps201
  go_wp2_with fail
  go_loopg [1,2] 1 (fun kq v1 v2 w'=>v1 = .int .i64 0∧v2 = .int .i64 0∧w'=w)
  case atStart=>exact⟨rfl,rfl,rfl⟩
  case round=>
    obtain⟨rfl,rfl,rfl⟩:=hrel
    go_wp2_with fail
    refine (ins_nil _).mono ?_
    rintro e w' ⟨rfl,rfl⟩
    go_wp2_with fail
    exact bodyPost_ret (v:=.tuple #[]) (by simp[results,Tryz.results201,go_sem]) rfl ⟨rfl,rfl⟩
theorem sort_nil (w:World):Calls Tryz.prog 154 #[.slice none 0 0] w fun e w'=>e = .returned (.tuple #[])∧w=w':=by
  go_enter Tryz.func154,Tryz.ntmps154
  go_wp2_with fail
  refine (len_zero _).mono ?_
  rintro e w' ⟨y,rfl,rfl⟩
  go_wp2_with fail
  refine (pdq_nil y _).mono ?_
  rintro e w' ⟨rfl,rfl⟩
  go_wp2_with fail
  exact bodyPost_end (v:=.tuple #[]) (by simp[results,Tryz.results154,go_sem]) rfl ⟨rfl,rfl⟩
theorem sort_is (b:Nat)(v:Value)(xs:List Int)(w:World)(h:IS w b v xs)(hm:xs.length≤1000000) :
    Calls Tryz.prog 154 #[v] w fun e w'=>e = .returned (.tuple #[])∧IS w' b v (sortI xs)∧w.grownBy w' v.ownBlock:=by
  obtain⟨A,c,rfl,hn⟩:=ow_slice h
  cases A with
  | none=>
    obtain⟨h0,rfl⟩:=hn rfl
    have hx:xs=[]:=List.eq_nil_of_length_eq_zero h0
    subst hx
    refine (sort_nil w).mono ?_
    rintro e w' ⟨rfl,rfl⟩
    exact⟨rfl,by rw[show sortI []=[] from by simp[sortI]];exact IS.nil _ _,World.grownBy.refl _ _⟩
  | some ad=>
    rcases h.2 with ⟨h1,_⟩ | ⟨g',cap,cur,hv,_⟩
    · cases h1
    · injection hv with h1 h2 h3
      injection h1 with h1
      subst h1
      exact sort_some b g' xs.length c xs w h rfl hm
end Go.Proofs.YtaplpeoikebedaaGreatDoor.SortI
namespace Go.Proofs.YtaplpeoikebedaaGreatDoor.PoolA
open Go.RowKit YtaplpeoikebedaaGreatDoorW.PrintWords YtaplpeoikebedaaGreatDoorW.PrintLast YtaplpeoikebedaaGreatDoorW.PrintMore
open See Mem Clone Go.Proofs.YtaplpeoikebedaaGreatDoor.Cell Page PageB PageR Disk DiskN DiskW DiskS RecD Pool1 Pool2 Pool3 Wal WalF Dirty Dirty2 SysD SysM PoolF PoolE PoolG PoolS Num SortI Fresh Del
attribute [local go_sem] max2_imax min2_imin max_two min_two
end Go.Proofs.YtaplpeoikebedaaGreatDoor.PoolA
namespace Go.Proofs.YtaplpeoikebedaaGreatDoor.ErrD
open Go.RowKit See Mem Clone Go.Proofs.YtaplpeoikebedaaGreatDoor.Cell Page PageB PageR PageL Disk DiskN DiskW WalF
theorem page_zero:pageBytes 0 []=List.replicate 256 0:=by decide +kernel
end Go.Proofs.YtaplpeoikebedaaGreatDoor.ErrD
namespace Go.Proofs.YtaplpeoikebedaaGreatDoor.TabL
open Go.RowKit See Mem Dirty SysD
theorem has_cons (d:Int×Int)(ds:List (Int×Int))(n:Int):has (d :: ds) n=if d.1<n then has ds n else d.1 == n:=by
  unfold has
  by_cases h:d.1<n
  · rw[if_pos h]
    simp only[pos,if_pos h,List.getElem?_cons_succ]
  · rw[if_neg h]
    simp only[pos,if_neg h,List.getElem?_cons_zero]
theorem has_iff : ∀(ds:List (Int×Int)) (n:Int),Rising ds→(has ds n=true↔∃d∈ds,d.1=n)
  | [],n,_=>by simp[has,pos]
  | d :: ds,n,h=>by
    unfold Rising at h
    rw[List.pairwise_cons] at h
    rw[has_cons]
    by_cases hd:d.1<n
    · rw[if_pos hd,has_iff ds n h.2]
      constructor
      · rintro⟨x,hx,e⟩;exact⟨x,List.mem_cons_of_mem _ hx,e⟩
      · rintro⟨x,hx,e⟩
        rcases List.mem_cons.1 hx with rfl | hx
        · omega
        · exact⟨x,hx,e⟩
    · rw[if_neg hd]
      constructor
      · intro e;exact⟨d,List.mem_cons_self,by simpa using e⟩
      · rintro⟨x,hx,e⟩
        rcases List.mem_cons.1 hx with rfl | hx
        · simpa using e
        · have:=h.1 x hx;omega
theorem drop_mem {ds:List (Int×Int)}{n:Int}{x:Int×Int}(hx:x∈dropT ds n):x∈ds:=by
  unfold dropT at hx
  split at hx
  · exact (List.eraseIdx_sublist _ _).mem hx
  · exact hx
theorem drop_ne : ∀(ds:List (Int×Int)) (n:Int),Rising ds→∀x∈dropT ds n,x.1≠n
  | [],n,_,x,hx=>by simp[dropT] at hx
  | d :: ds,n,h,x,hx=>by
    have h0:=h
    unfold Rising at h
    rw[List.pairwise_cons] at h
    unfold dropT at hx
    by_cases hh:has (d :: ds) n=true
    · rw[if_pos hh] at hx
      by_cases hd:d.1<n
      · simp only[pos,if_pos hd,List.eraseIdx_cons_succ] at hx
        rcases List.mem_cons.1 hx with rfl | hx
        · omega
        · rw[has_cons,if_pos hd] at hh
          exact drop_ne ds n h.2 x (by unfold dropT;rw[if_pos hh];exact hx)
      · simp only[pos,if_neg hd,List.eraseIdx_cons_zero] at hx
        have:=h.1 x hx
        rw[has_cons,if_neg hd] at hh
        have:d.1=n:=by simpa using hh
        omega
    · rw[if_neg hh] at hx
      intro e
      exact hh ((has_iff _ n h0).2 ⟨x,hx,e⟩)
theorem drop_keep : ∀{ds:List (Int×Int)} {n:Int},Rising ds→∀{x:Int×Int},x∈ds→x.1≠n→x∈dropT ds n
  | [],n,_,x,hx,_=>by cases hx
  | d :: ds,n,h,x,hx,hne=>by
    unfold Rising at h
    rw[List.pairwise_cons] at h
    unfold dropT
    split
    · rename_i hh
      by_cases hd:d.1<n
      · simp only[pos,if_pos hd,List.eraseIdx_cons_succ]
        rcases List.mem_cons.1 hx with rfl | hx
        · exact List.mem_cons_self
        · rw[has_cons,if_pos hd] at hh
          have:=drop_keep (n:=n) h.2 hx hne
          unfold dropT at this
          rw[if_pos hh] at this
          exact List.mem_cons_of_mem _ this
      · simp only[pos,if_neg hd,List.eraseIdx_cons_zero]
        rw[has_cons,if_neg hd] at hh
        rcases List.mem_cons.1 hx with rfl | hx
        · exact absurd (by simpa using hh) hne
        · exact hx
    · exact hx
theorem add_mem {ds:List (Int×Int)}{n f:Int}{x:Int×Int}(hx:x∈addT ds n f):x∈ds∨x=(n,f):=by
  unfold addT at hx
  split at hx
  · exact .inl hx
  · rcases List.mem_append.1 hx with hx | hx
    · exact .inl (List.mem_of_mem_take hx)
    · rcases List.mem_cons.1 hx with hx | hx
      · exact .inr hx
      · exact .inl (List.mem_of_mem_drop hx)
end Go.Proofs.YtaplpeoikebedaaGreatDoor.TabL
namespace Go.Proofs.YtaplpeoikebedaaGreatDoor.DiskL
open Go.RowKit YtaplpeoikebedaaGreatDoorW.PrintWords YtaplpeoikebedaaGreatDoorW.PrintLast YtaplpeoikebedaaGreatDoorW.PrintMore
open See Mem Clone Go.Proofs.YtaplpeoikebedaaGreatDoor.Cell Page PageB PageR Disk DiskN
end Go.Proofs.YtaplpeoikebedaaGreatDoor.DiskL
