/- Joined texts: PoolA, ErrD, TabL, DiskL, AheadD. No condition but what each says. -/
import Derived.Test.YtaplpeoikebedaaGreatDoorX19
import Derived.Test.YtaplpeoikebedaaGreatDoorX14
import Derived.Test.YtaplpeoikebedaaGreatDoorX6
import Derived.Test.YtaplpeoikebedaaGreatDoorX7
import Derived.Test.YtaplpeoikebedaaGreatDoorX16
import Derived.Test.YtaplpeoikebedaaGreatDoorX4
set_option maxHeartbeats 8000000
set_option maxRecDepth 100000
set_option linter.unusedVariables false
set_option linter.unusedSimpArgs false
namespace Go.Proofs.YtaplpeoikebedaaGreatDoor.PoolA
open Go.RowKit YtaplpeoikebedaaGreatDoorW.PrintWords YtaplpeoikebedaaGreatDoorW.PrintLast YtaplpeoikebedaaGreatDoorW.PrintMore
open See Mem Clone Go.Proofs.YtaplpeoikebedaaGreatDoor.Cell Page PageB PageR Disk DiskN DiskW DiskS RecD Pool1 Pool2 Pool3 Wal WalF Dirty Dirty2 SysD SysM PoolF PoolE PoolG PoolS Num SortI Fresh Del
attribute [local go_sem] max2_imax min2_imin max_two min_two
def flushAllS (S:PSys):PSys×Option Nat:=
  match flushL S (sortI (S.here.map (·.n))) with
  | (S',some e)=>(S',some e)
  | (S',none)=>({ S' with d:=syncD S'.d },syncE S'.d)
theorem flushS_loose {S:PSys}{n:Int}{m:Nat}(hf:FuseOk S.d)(hl:LooseLe S.d m):LooseLe (flushS S n).1.d (m+S.l.l.length+2)∧(flushS S n).1.l.l.length=S.l.l.length:=by
  unfold flushS
  split
  · exact⟨hl.mono (by omega),rfl⟩
  · rename_i f hfd
    split
    · exact⟨hl.mono (by omega),rfl⟩
    · by_cases hd:S.l.doneN<f.lsn
      · simp only[if_pos hd]
        obtain⟨o1,o2,o3⟩:=lflush_ok (L:=S.l) hf hl
        have hll:(lflush S.l S.d).1.l.length=S.l.l.length:=by
          unfold lflush
          split
          · rfl
          · split
            · rfl
            · split<;>rfl
        split
        · exact⟨o2.mono (by omega),hll⟩
        · split
          · exact⟨(writeD_loose n (pageBytes f.lsn f.es) o2).mono (by omega),hll⟩
          · exact⟨(writeD_loose n (pageBytes f.lsn f.es) o2).mono (by omega),hll⟩
      · simp only[if_neg hd]
        split
        · exact⟨(writeD_loose n (pageBytes f.lsn f.es) hl).mono (by omega),rfl⟩
        · exact⟨(writeD_loose n (pageBytes f.lsn f.es) hl).mono (by omega),rfl⟩
theorem flushL_cons_ok {S S':PSys}{n:Int}{ns:List Int}(h:flushS S n=(S',none)):flushL S (n :: ns)=flushL S' ns:=by rw[flushL,h]
theorem flushL_cons_err {S S':PSys}{n:Int}{ns:List Int}{e:Nat}(h:flushS S n=(S',some e)):flushL S (n :: ns)=(S',some e):=by rw[flushL,h]
theorem sys_keepM {M:Nat→Prop}{w w1 w2:World}{pp lp dp:Nat}{S:PSys}(hb:w.heap.size≤w1.heap.size)(hx:SysM (Gr (Gr M w w1) w1 w2) w2 pp lp dp S)(hz:w1.heap.size≤w2.heap.size):SysM (Gr M w w2) w2 pp lp dp S:=
  hx.mono fun k hk=>by
    rcases hk with (hk | ⟨h1,h2⟩) | ⟨h1,h2⟩
    · exact .inl hk
    · exact .inr ⟨h1,by omega⟩
    · exact .inr ⟨by omega,h2⟩
def PAllPost (a:Nat→Addr)(M:Nat→Prop)(pp lp dp:Nat)(S:PSys)(w:World)(e:Ending)(w':World):Prop:=
  e = .returned (errv a (flushAllS S).2)∧SysM (Gr M w w') w' pp lp dp (flushAllS S).1∧Frm sTurn M w w'
theorem flushall_pool (a:Nat→Addr)(M:Nat→Prop)(pp lp dp:Nat)(S:PSys)(w:World)(hs:Sents w a)(hO:Out M a)(x:SysM M w pp lp dp S)(hlo:LooseLe S.d 7000)(hll:S.l.l.length≤4000) :
    Calls Tryz.prog 101 #[.pointer (some ⟨pp,0,none⟩)] w (PAllPost a M pp lp dp S w):=by
  have HS:=Aside0.mk hs
  have HO:=Aside0.mk hO
  have HX:=Aside0.mk x
  have HLO:=Aside0.mk hlo
  have HLL:=Aside0.mk hll
  clear hs hO x hlo hll
  go_enter Tryz.func101,Tryz.ntmps101
  go_wp2_with fail
  refine (here_pool HX.out).mono ?_
  rintro e w1 ⟨v1,rfl,h1,hb1⟩
  obtain⟨ns,hns⟩ : ∃ns,S.here.map (·.n)=ns:=⟨_,rfl⟩
  have HNS:=Aside0.mk hns
  rw[hns] at h1
  have HI1:=Aside0.mk h1
  have HB1:=Aside0.mk hb1
  have hn8:ns.length≤8:=by rw[←hns,List.length_map];exact HX.out.here.few
  clear h1 hb1 hns
  go_wp2_with fail
  refine (sort_is w.heap.size v1 ns _ HI1.out (by omega)).mono ?_
  rintro e w2 ⟨rfl,h2,hg2⟩
  have HB2:=Aside0.mk (show Below w.heap.size w w2 from HB1.out.grown hg2 HB1.out.size (fun k hk=>(ow_block HI1.out hk).1))
  have HI2:=Aside0.mk h2
  have HSL:=Aside0.mk (sortI_len ns)
  obtain⟨A2,c2,rfl,_⟩:=ow_slice h2
  obtain⟨q,hq⟩ : ∃q,sortI ns=q:=⟨_,rfl⟩
  have HQ:=Aside0.mk hq
  rw[hq] at HI2 HSL ⊢
  obtain⟨n,hn⟩ : ∃n,q.length=n:=⟨_,rfl⟩
  have HN:=Aside0.mk hn
  have hn8:n≤8:=by rw[←hn,HSL.out];exact hn8
  rw[hn] at HI2 ⊢
  clear h2 hg2 hq hn
  go_wp2_with fail
  go_loopg [13] (n+1) (fun kq v13 w' => ∃(i:Int) (T:PSys),v13 = .int .i64 i∧Aside0 (0≤i∧i≤n∧(kq:Int)=n+1 - i)∧Aside0 (flushL S q=flushL T (q.drop i.toNat))∧Aside0 (SysM (Gr M w w') w' pp lp dp T)∧Aside0 (Frm sTurn M w w')∧Aside0 (IS w' w.heap.size (.slice A2 n c2) q)∧Aside0 (LooseLe T.d (7000+4002*i.toNat)∧T.l.l.length=S.l.l.length))
  case atStart=>exact⟨0,S,rfl,⟨by omega,by omega,by omega⟩,⟨rfl⟩,⟨(HX.out.below HB2.out).mono fun k hk=>.inl hk⟩,⟨Frm.of_below HB2.out⟩,HI2,⟨HLO.out,rfl⟩⟩
  case round=>
    obtain⟨i,T,rfl,HI,HFL,HT,HF,HIS,HLT⟩:=hrel
    have hi0:0≤i:=HI.out.1
    by_cases hlt:i<n
    · obtain⟨h,hh⟩ : ∃h,q[i.toNat]? = some h:=⟨_,List.getElem?_eq_getElem (by have:=HN.out;omega)⟩
      have HIR:=Aside0.mk (show IR wr (.slice A2 n c2) q from by have h:=HIS.out;have hN:=HN.out;subst hN;exact IR.of h (by omega))
      obtain⟨g,o,hA,hnq,hc⟩:=HIR.out.at hh
      clear hnq
      have HD:=Aside0.mk (show q.drop i.toNat=h :: q.drop (i.toNat+1) from by
        obtain⟨h1,h2⟩:=List.getElem?_eq_some_iff.1 hh
        rw[←h2];exact List.drop_eq_getElem_cons h1)
      clear hh
      subst hA
      go_wp2_with fail
      have HS3:=Aside0.mk (sents_frm HS.out HF.out HO.out)
      refine (flush_pool a (Gr M w wr) pp lp dp T h _ HS3.out (HO.out.gr HS.out (w':=wr)) HT.out (HLT.out.1.mono (by omega))).mono ?_
      rintro e w3 ⟨rfl,x3,f3⟩
      obtain⟨l1,l2⟩:=flushS_loose (n:=h) HT.out.fuse HLT.out.1
      have HL3:=Aside0.mk (And.intro l1 l2)
      have HX3:=Aside0.mk (sys_keepM HF.out.size x3 f3.size)
      have HF3:=Aside0.mk (HF.out.transG f3)
      have HIS3:=Aside0.mk (show IS w3 w.heap.size (.slice (some ⟨g,o,none⟩) n c2) q from by have h:=HIS.out;have hN:=HN.out;subst hN;exact ow_frm h f3 (by decide))
      clear x3 f3 l1 l2 hc
      obtain⟨r,hr⟩ : ∃r,flushS T h=r:=⟨_,rfl⟩
      have HR:=Aside0.mk hr
      rw[hr] at HX3 HL3 ⊢
      clear hr
      obtain⟨T',oo⟩:=r
      simp only at HX3 HL3
      cases oo with
      | some e=>
        have HRR:=Aside0.mk (show flushAllS S=(T',some e) from by
          unfold flushAllS
          rw[show sortI (S.here.map (·.n))=q from by rw[HNS.out,HQ.out],HFL.out,HD.out,flushL_cons_err HR.out])
        rw[show errv a (T',some e).2 = .iface 333 (.pointer (some (a e))) from rfl]
        go_wp2_with fail
        go_ret
        exact⟨by rw[HRR.out];rfl,by rw[HRR.out];exact HX3.out,HF3.out⟩
      | none=>
        rw[show errv a (T',none).2 = .nilIface from rfl]
        go_wp2_with fail
        go_roundg (gk - 1)
        case measure=>have:=HI.out;omega
        case rel=>exact⟨i+1,T',rfl,⟨by omega,by omega,by have:=HI.out;omega⟩,⟨by rw[HFL.out,HD.out,flushL_cons_ok HR.out,show (i+1).toNat=i.toNat+1 from by omega]⟩,HX3,HF3,HIS3,⟨by
          have h1:=HL3.out
          have h2:=HLT.out
          have h3:=HLL.out
          refine⟨h1.1.mono (by omega),by omega⟩⟩⟩
    · have HFA:=Aside0.mk (show flushAllS S=({ T with d:=syncD T.d },syncE T.d) from by
        unfold flushAllS
        rw[show sortI (S.here.map (·.n))=q from by rw[HNS.out,HQ.out],HFL.out,List.drop_of_length_le (by have:=HN.out;omega),flushL])
      obtain⟨t1,h1,fs1,ht1,hh1⟩:=HT.out.pool
      obtain⟨_,g5,_,_,_⟩:=pool_cells ht1
      clear ht1 hh1
      have HS3:=Aside0.mk (sents_frm HS.out HF.out HO.out)
      go_wp2_with fail
      refine (sync_disk a (Gr M w wr) dp T.d _ HS3.out (HO.out.gr HS.out (w':=wr)) HT.out.dsk HT.out.fuse (fun s hs=>Nat.le_trans (HLT.out.1 s hs) (by have:=HI.out;omega))).mono ?_
      rintro e w3 ⟨rfl,d3,f3⟩
      have hx:=HT.out.disk (d3.mono fun k hk=>.inl hk) f3 (syncD_ok HT.out.fuse HLT.out.1).1
      have HX3:=Aside0.mk (sys_keepM HF.out.size hx f3.size)
      have HF3:=Aside0.mk (HF.out.transG (frm_sys1 f3))
      clear d3 f3 hx g5
      go_wp2_with fail
      go_ret
      exact⟨by rw[HFA.out];rfl,by rw[HFA.out];exact HX3.out,HF3.out⟩
end Go.Proofs.YtaplpeoikebedaaGreatDoor.PoolA
namespace Go.Proofs.YtaplpeoikebedaaGreatDoor.ErrD
open Go.RowKit See Mem Clone Go.Proofs.YtaplpeoikebedaaGreatDoor.Cell Page PageB PageR PageL Disk DiskN DiskW WalF
theorem page_zero:pageBytes 0 []=List.replicate 256 0:=by decide +kernel
end Go.Proofs.YtaplpeoikebedaaGreatDoor.ErrD
namespace Go.Proofs.YtaplpeoikebedaaGreatDoor.TabL
open Go.RowKit See Mem Dirty SysD
theorem has_cons (d:Int×Int)(ds:List (Int×Int))(n:Int):has (d :: ds) n=if d.1<n then has ds n else d.1 == n:=by
  unfold has
  by_cases h:d.1<n
  · rw[if_pos h]
    simp only[pos,if_pos h,List.getElem?_cons_succ]
  · rw[if_neg h]
    simp only[pos,if_neg h,List.getElem?_cons_zero]
theorem has_iff : ∀(ds:List (Int×Int)) (n:Int),Rising ds→(has ds n=true↔∃d∈ds,d.1=n)
  | [],n,_=>by simp[has,pos]
  | d :: ds,n,h=>by
    unfold Rising at h
    rw[List.pairwise_cons] at h
    rw[has_cons]
    by_cases hd:d.1<n
    · rw[if_pos hd,has_iff ds n h.2]
      constructor
      · rintro⟨x,hx,e⟩;exact⟨x,List.mem_cons_of_mem _ hx,e⟩
      · rintro⟨x,hx,e⟩
        rcases List.mem_cons.1 hx with rfl | hx
        · omega
        · exact⟨x,hx,e⟩
    · rw[if_neg hd]
      constructor
      · intro e;exact⟨d,List.mem_cons_self,by simpa using e⟩
      · rintro⟨x,hx,e⟩
        rcases List.mem_cons.1 hx with rfl | hx
        · simpa using e
        · have:=h.1 x hx;omega
theorem drop_mem {ds:List (Int×Int)}{n:Int}{x:Int×Int}(hx:x∈dropT ds n):x∈ds:=by
  unfold dropT at hx
  split at hx
  · exact (List.eraseIdx_sublist _ _).mem hx
  · exact hx
theorem drop_ne : ∀(ds:List (Int×Int)) (n:Int),Rising ds→∀x∈dropT ds n,x.1≠n
  | [],n,_,x,hx=>by simp[dropT] at hx
  | d :: ds,n,h,x,hx=>by
    have h0:=h
    unfold Rising at h
    rw[List.pairwise_cons] at h
    unfold dropT at hx
    by_cases hh:has (d :: ds) n=true
    · rw[if_pos hh] at hx
      by_cases hd:d.1<n
      · simp only[pos,if_pos hd,List.eraseIdx_cons_succ] at hx
        rcases List.mem_cons.1 hx with rfl | hx
        · omega
        · rw[has_cons,if_pos hd] at hh
          exact drop_ne ds n h.2 x (by unfold dropT;rw[if_pos hh];exact hx)
      · simp only[pos,if_neg hd,List.eraseIdx_cons_zero] at hx
        have:=h.1 x hx
        rw[has_cons,if_neg hd] at hh
        have:d.1=n:=by simpa using hh
        omega
    · rw[if_neg hh] at hx
      intro e
      exact hh ((has_iff _ n h0).2 ⟨x,hx,e⟩)
theorem drop_keep : ∀{ds:List (Int×Int)} {n:Int},Rising ds→∀{x:Int×Int},x∈ds→x.1≠n→x∈dropT ds n
  | [],n,_,x,hx,_=>by cases hx
  | d :: ds,n,h,x,hx,hne=>by
    unfold Rising at h
    rw[List.pairwise_cons] at h
    unfold dropT
    split
    · rename_i hh
      by_cases hd:d.1<n
      · simp only[pos,if_pos hd,List.eraseIdx_cons_succ]
        rcases List.mem_cons.1 hx with rfl | hx
        · exact List.mem_cons_self
        · rw[has_cons,if_pos hd] at hh
          have:=drop_keep (n:=n) h.2 hx hne
          unfold dropT at this
          rw[if_pos hh] at this
          exact List.mem_cons_of_mem _ this
      · simp only[pos,if_neg hd,List.eraseIdx_cons_zero]
        rw[has_cons,if_neg hd] at hh
        rcases List.mem_cons.1 hx with rfl | hx
        · exact absurd (by simpa using hh) hne
        · exact hx
    · exact hx
theorem add_mem {ds:List (Int×Int)}{n f:Int}{x:Int×Int}(hx:x∈addT ds n f):x∈ds∨x=(n,f):=by
  unfold addT at hx
  split at hx
  · exact .inl hx
  · rcases List.mem_append.1 hx with hx | hx
    · exact .inl (List.mem_of_mem_take hx)
    · rcases List.mem_cons.1 hx with hx | hx
      · exact .inr hx
      · exact .inl (List.mem_of_mem_drop hx)
end Go.Proofs.YtaplpeoikebedaaGreatDoor.TabL
namespace Go.Proofs.YtaplpeoikebedaaGreatDoor.DiskL
open Go.RowKit YtaplpeoikebedaaGreatDoorW.PrintWords YtaplpeoikebedaaGreatDoorW.PrintLast YtaplpeoikebedaaGreatDoorW.PrintMore
open See Mem Clone Go.Proofs.YtaplpeoikebedaaGreatDoor.Cell Page PageB PageR Disk DiskN
def looseOne (l:List Sec)(j:Nat):Option (Int×Int):=match l[j]? with
  | some s=>if s.loose.length=0 then none else some ((j:Int),(s.loose.length:Int))
  | none=>none
def looseN (l:List Sec)(k:Nat):List (Int×Int):=(List.range k).filterMap (looseOne l)
theorem looseN_succ (l:List Sec)(k:Nat):looseN l (k+1)=looseN l k++(looseOne l k).toList:=by
  unfold looseN
  rw[List.range_succ,List.filterMap_append]
  cases h:looseOne l k<;>simp[h]
theorem looseN_len (l:List Sec)(k:Nat):(looseN l k).length≤k:=by
  unfold looseN
  exact Nat.le_trans (List.length_filterMap_le _ _) (by simp)
theorem info_loose:(Tryz.prog.info? 185).map (fun i=>(i.zero,i.size,i.bytes))=some (some (.agg #[.int .i64 0,.int .i64 0]),2,16):=by kernel_rfl
theorem news_two (W:World)(b:Nat)(hb:W.heap.size=b)(u v:Value)(e:Nat) : ∀j x,[u,v][j]? = some x→(W.alloc (.cells #[u,v] e)).cell? ((⟨b,0,none⟩:Addr).add j)=some x:=by subst hb;exact news2_at W u v e
theorem loose_disk (M:Nat→Prop)(p:Nat)(d:Dsk)(w:World)(hd:DskM M w p d) :
    Calls Tryz.prog 52 #[.pointer (some ⟨p,0,none⟩)] w fun e w' => ∃v',e = .returned v'∧P2 w' 185 v' (looseN d.l d.l.length)∧Below w.heap.size w w':=by
  obtain⟨i0,hi,hzz⟩:=Option.map_eq_some_iff.1 info_loose
  simp only[Prod.mk.injEq] at hzz
  obtain⟨hz0,hz1,hz2⟩:=hzz
  obtain⟨g,cap,rs,hd⟩:=hd
  obtain⟨hc0,hc1,hc2⟩:=hd.cells
  have HD:=Aside0.mk hd
  have hfew:=hd.few
  obtain⟨n,hn⟩ : ∃n,d.l.length=n:=⟨_,rfl⟩
  have HN:=Aside0.mk hn
  rw[hn] at hc0 hfew ⊢
  have HI0:=Aside0.mk (And.intro hi (And.intro hz0 (And.intro hz1 hz2)))
  clear hd hn hi hz0 hz1 hz2 hc1 hc2
  go_enter Tryz.func52,Tryz.ntmps52
  go_wp2_with fail
  go_loopg [3,11] (n+1) (fun kq v3 v11 w' => ∃(i:Int) (sl:Value),v3=sl∧v11 = .int .i64 i∧Aside0 (0≤i∧i≤n∧(kq:Int)=n+1 - i)∧Aside0 (w'.ownsRow w.heap.size 185 2 sl (looseN d.l i.toNat).length (cells2 (looseN d.l i.toNat)))∧Aside0 (Below w.heap.size w w'))
  case atStart=>exact⟨0,_,rfl,rfl,⟨by omega,by omega,by omega⟩,⟨World.ownsRow_nil _ _ _ _⟩,⟨Below.refl _ _⟩⟩
  case round=>
    obtain⟨i,sl,rfl,rfl,HI,HO,HB⟩:=hrel
    have hi0:0≤i:=HI.out.1
    by_cases hlt:i<n
    · obtain⟨s,hs⟩ : ∃s,d.l[i.toNat]? = some s:=⟨_,List.getElem?_eq_getElem (by have:=HN.out;omega)⟩
      obtain⟨r,hr⟩ : ∃r,rs[i.toNat]? = some r:=⟨_,List.getElem?_eq_getElem (by have:=HN.out;have:=HD.out.len;omega)⟩
      have HDW:=Aside0.mk (HD.out.move fun k hk _=>HB.out.block k hk)
      obtain⟨c0,c1⟩:=HDW.out.sec hr
      obtain⟨h1,⟨vs,h2,h3⟩,h4⟩:=HDW.out.secs _ _ _ hr hs
      obtain⟨A1,cc1,hv1,_⟩:=Rd.form h1
      obtain⟨A2,cc2,hv2,_⟩:=ow_slice h2
      obtain⟨u,v⟩:=r
      simp only at c0 c1 hv1 hv2
      subst hv1 hv2
      obtain⟨m,hm⟩ : ∃m,s.loose.length=m:=⟨_,rfl⟩
      have HOne:=Aside0.mk (show looseOne d.l i.toNat=if m=0 then none else some (i,(m:Int)) from by
        unfold looseOne
        rw[hs]
        simp only[hm]
        rw[Int.toNat_of_nonneg hi0])
      have HSUC:=Aside0.mk (looseN_succ d.l i.toNat)
      rw[hm] at c1
      have hsz:=HB.out.size
      clear h1 h2 h3 h4 hs hr hm
      by_cases hm0:m=0
      · subst hm0
        go_wp2_with fail
        go_roundg (gk - 1)
        case measure=>have:=HI.out;omega
        case rel=>exact⟨i+1,_,rfl,rfl,⟨by omega,by omega,by have:=HI.out;omega⟩,⟨by
          rw[show (i+1).toNat=i.toNat+1 from by omega,HSUC.out,HOne.out]
          have h:=HO.out
          simp only[if_true,Option.toList,List.append_nil]
          exact ow_below h (by repeat (first | exact Below.refl _ _ | apply below_drew1 | apply below_alloc))⟩,⟨by
          refine below_step HB.out ?_
          repeat (first | exact Below.refl _ _ | apply below_drew1 | apply below_alloc)⟩⟩
      · have hm1:(0:Int)<(m:Int):=by omega
        have HM0:=Aside0.mk hm0
        obtain⟨hi,hz0,hz1,hz2⟩:=HI0.out
        obtain⟨q,hq⟩ : ∃q,looseN d.l i.toNat=q:=⟨_,rfl⟩
        have HQ:=Aside0.mk hq
        have hql:q.length≤100000:=by rw[←hq];have:=looseN_len d.l i.toNat;omega
        have HO2:=Aside0.mk (show wr.ownsRow w.heap.size 185 2 u3 q.length (cells2 q) from by have h:=HO.out;rw[hq] at h;exact h)
        obtain⟨ql,hqlen⟩ : ∃ql,q.length=ql:=⟨_,rfl⟩
        have HQL:=Aside0.mk hqlen
        rw[hqlen] at hql HO2
        clear hq hqlen hm0
        go_wp2_with (at_builtin;refine wpList_append_lies _ (by rfl) _ _ 98 (by rfl) w.heap.size 185 i0 (.agg #[.int .i64 0,.int .i64 0]) 2 16 Tryz.underlying98 hi hz0 hz1 hz2 rfl (by decide) _ ql (cells2 q) (by rfl) (by exact ow_below HO2.out (by repeat (first | exact Below.refl _ _ | apply below_drew1 | apply below_alloc))) ⟨wr.heap.size+1,0,none⟩ 1 1 [.int .i64 i,.int .i64 m] (by rfl) rfl (by exact news_two _ _ (by simp) _ _ _) (by intro u hu;simp at hu;rcases hu with rfl | rfl<;>rfl) (by decide) (by unfold maxLen;omega) (by omega) (by simp;omega) (wr.heap.size+2) (by simp) ?_)
        intro g2 cap2 w3 hown hgr hor hlt3
        have HOWN:=Aside0.mk hown
        have HB3:=Aside0.mk (show Below w.heap.size w w3 from (below_step HB.out (by repeat (first | exact Below.refl wr.heap.size wr | apply below_drew1 | apply below_alloc))).grown hgr (by simp;omega) (fun k hk=>(ow_block HO2.out hk).1))
        clear hown hgr hor hlt3 hi hz0 hz1 hz2
        go_wp2_with fail
        go_roundg (gk - 1)
        case measure=>have:=HI.out;omega
        case rel=>exact⟨i+1,_,rfl,rfl,⟨by omega,by omega,by have:=HI.out;omega⟩,⟨by
          rw[show (i+1).toNat=i.toNat+1 from by omega,HSUC.out,HOne.out,if_neg HM0.out,HQ.out]
          have h:=HOWN.out
          have e:cells2 (q++[(i,(m:Int))])=cells2 q++[.int .i64 i,.int .i64 m]:=by simp[cells2]
          rw[show (some (i,(m:Int))).toList=[(i,(m:Int))] from rfl,e,List.length_append,HQL.out]
          exact h⟩,HB3⟩
    · have HE:=Aside0.mk (show i.toNat=n by have:=HI.out;omega)
      go_wp2_with fail
      go_ret
      exact⟨_,rfl,⟨ow_base (by have h:=HO.out;rw[HE.out] at h;exact h) (Nat.zero_le _),by have:=looseN_len d.l n;omega⟩,HB.out⟩
end Go.Proofs.YtaplpeoikebedaaGreatDoor.DiskL
namespace Go.Proofs.YtaplpeoikebedaaGreatDoor.AheadD
open Go.RowKit See Mem Clone Go.Proofs.YtaplpeoikebedaaGreatDoor.Cell Page PageB PageR PageL Disk DiskN DiskW RecD Dirty Dirty2 SysD SysM Wal WalF GoodD PoolG PoolS FlushG Fresh DirtD PoolA TabL DiskL SortI
structure ASt (i:Nat) (lst:Int→Int) (S:PSys):Prop where
  good:GoodD.Good S.d 20
  frames:S.frames=2
  log:S.l.first=6∧S.l.blocks=12∧S.l.base=0∧S.l.l.length=i∧S.l.done≤i
  room:i≤30
  few:S.here.length≤2
  once:S.here.Pairwise fun a b=>a.n≠b.n
  here : ∀f∈S.here,1≤f.n∧f.n≤5∧f.es=[]∧f.lsn=lst f.n
  lsn : ∀k,0≤lst k∧lst k≤i
  rise:Rising S.t
  tab : ∀d∈S.t,∃f∈S.here,f.n=d.1
  disk : ∀k,1≤k→k≤5→∃x,0≤x∧x≤S.l.doneN∧readV S.d k=pageBytes x []∧(has S.t k=false→x=lst k)
theorem find_once : ∀{l:List Fp} {f:Fp},(l.Pairwise fun a b=>a.n≠b.n)→f∈l→findP l f.n=some f
  | [],f,_,h=>by cases h
  | x :: xs,f,ho,h=>by
    rw[List.pairwise_cons] at ho
    unfold findP
    rw[List.find?_cons]
    rcases List.mem_cons.1 h with rfl | h
    · simp
    · have hne:x.n≠f.n:=ho.1 f h
      simp only[hne,decide_false]
      exact find_once ho.2 h
theorem find_some {l:List Fp}{n:Int}{f:Fp}(h:findP l n=some f):f∈l∧f.n=n:=by
  unfold findP at h
  exact⟨List.mem_of_find?_eq_some h,by simpa using List.find?_some h⟩
theorem find_none {l:List Fp}{n:Int}(h:findP l n=none) : ∀f∈l,f.n≠n:=by
  unfold findP at h
  rw[List.find?_eq_none] at h
  exact fun f hf e=>h f hf (decide_eq_true e)
theorem find_last {l:List Fp}{n:Int}{f:Fp}(h:findP l n=none)(hf:f.n=n):findP (l++[f]) n=some f:=by
  unfold findP at h ⊢
  rw[List.find?_append,h]
  simp[hf]
theorem has_add {ds:List (Int×Int)}{n f k:Int}(h:Rising ds):has (addT ds n f) k=false→has ds k=false:=fun e=>by
  rw[Bool.eq_false_iff] at e ⊢
  intro e2
  obtain⟨d,hd,e3⟩:=(has_iff _ k h).1 e2
  refine e ((has_iff _ k (addT_rising h n f)).2 ⟨d,?_,e3⟩)
  unfold addT
  split
  · exact hd
  · rw[←List.take_append_drop (pos ds n) ds] at hd
    rcases List.mem_append.1 hd with hd | hd
    · exact List.mem_append_left _ hd
    · exact List.mem_append_right _ (List.mem_cons_of_mem _ hd)
theorem has_add_self {ds:List (Int×Int)}{n f:Int}(h:Rising ds):has (addT ds n f) n=true:=by
  by_cases e:has ds n=true
  · unfold addT;rw[if_pos e];exact e
  · refine (has_iff _ n (addT_rising h n f)).2 ⟨(n,f),?_,rfl⟩
    unfold addT
    rw[if_neg e]
    exact List.mem_append_right _ List.mem_cons_self
theorem evictS_d (S:PSys)(hint:Int):(evictS S hint).1.d=S.d∨∃n,(evictS S hint).1.d=(flushS S n).1.d:=by
  unfold evictS
  split
  · exact .inl rfl
  · rename_i f _
    refine .inr ⟨f.n,?_⟩
    split
    · rename_i S' e hq;rw[hq]
    · rename_i S' hq;rw[hq]
theorem getS_d (S:PSys)(n hint:Int):(getS S n hint).1.d=S.d∨(getS S n hint).1.d=(evictS S hint).1.d:=by
  unfold getS
  split
  · exact .inl rfl
  · split
    · exact .inl rfl
    · by_cases hr:S.frames≤S.here.length
      · rw[if_pos hr]
        refine .inr ?_
        simp only
        split
        · rfl
        · split
          · rfl
          · split<;>rfl
      · rw[if_neg hr]
        refine .inl ?_
        simp only
        split
        · rfl
        · split<;>rfl
theorem tab_few {i:Nat}{lst:Int→Int}{S:PSys}(h:ASt i lst S):S.t.length≤70000:=by
  have hn : ∀(l:List (Int×Int)),Rising l→(∀d∈l,1≤d.1∧d.1≤5)→l.length≤5:=fun l hr hb=>by
    have : ∀(l:List (Int×Int)) (k:Int),Rising l→(∀d∈l,k≤d.1∧d.1≤5)→k≤6→(l.length:Int)≤6 - k:=by
      intro l
      induction l with
      | nil=>intro k _ _ hk;simp;omega
      | cons d l ih=>
        intro k hr hb hk
        unfold Rising at hr
        rw[List.pairwise_cons] at hr
        have h1:=hb d List.mem_cons_self
        have:=ih (d.1+1) hr.2 (fun x hx=>⟨by have:=hr.1 x hx;omega,(hb x (List.mem_cons_of_mem _ hx)).2⟩) (by omega)
        rw[List.length_cons]
        omega
    have:=this l 1 hr hb (by omega)
    omega
  have:=hn S.t h.rise (fun d hd=>by
    obtain⟨f,hf,e⟩:=h.tab d hd
    obtain⟨h1,h2,_⟩:=h.here f hf
    omega)
  omega
end Go.Proofs.YtaplpeoikebedaaGreatDoor.AheadD
