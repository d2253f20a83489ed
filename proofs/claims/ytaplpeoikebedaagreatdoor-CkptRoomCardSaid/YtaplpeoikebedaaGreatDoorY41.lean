/- Joined texts: ImgT, RefM, CkptN, CkptB. No condition but what each says. -/
import Derived.Test.YtaplpeoikebedaaGreatDoorY6
import Derived.Test.YtaplpeoikebedaaGreatDoorY18
import Derived.Test.YtaplpeoikebedaaGreatDoorY35
import Derived.Test.YtaplpeoikebedaaGreatDoorY36
import Derived.Test.YtaplpeoikebedaaGreatDoorY38
set_option maxHeartbeats 8000000
set_option maxRecDepth 100000
set_option linter.unusedVariables false
set_option linter.unusedSimpArgs false
namespace Go.Proofs.YtaplpeoikebedaaGreatDoor.ImgT
open Go.RowKit YtaplpeoikebedaaGreatDoorW.PrintWords YtaplpeoikebedaaGreatDoorW.PrintLast YtaplpeoikebedaaGreatDoorW.PrintMore
open See Mem Clone Go.Proofs.YtaplpeoikebedaaGreatDoor.Cell Page PageB PageR Disk DiskN DiskW Num MasC
attribute [local go_sem] max2_imax min2_imin max_two min_two
def SlB (w:World)(b:Nat)(v:Value)(bs:List (List Int)):Prop := ∃vs,w.ownsRow b 93 1 v bs.length vs∧vs.length=bs.length∧∀(i:Nat) (x:Value) (y:List Int),vs[i]? = some x→bs[i]? = some y→BS w x y
theorem SlB.nil (w:World)(b:Nat):SlB w b (.slice none 0 0) []:=⟨[],World.ownsRow_nil _ _ _ _,rfl,fun i x y hx=>by cases hx⟩
theorem SlB.below {w w':World}{b:Nat}{v:Value}{bs:List (List Int)}(h:SlB w b v bs)(hb:Below w.heap.size w w'):SlB w' b v bs:=by
  obtain⟨vs,h1,h2,h3⟩:=h
  exact⟨vs,ow_below h1 hb,h2,fun i x y hx hy=>(h3 i x y hx hy).below hb⟩
theorem SlB.at {w:World}{b:Nat}{A:Option Addr}{n c:Nat}{bs:List (List Int)}(h:SlB w b (.slice A n c) bs){i:Nat}{y:List Int}(hy:bs[i]? = some y) : ∃g x,A=some ⟨g,0,none⟩∧n=bs.length∧w.cell? ⟨g,i,none⟩=some x∧BS w x y:=by
  obtain⟨vs,h1,h2,h3⟩:=h
  have hlt:=(List.getElem?_eq_some_iff.1 hy).1
  obtain⟨x,hx⟩ : ∃x,vs[i]? = some x:=⟨_,List.getElem?_eq_getElem (by omega)⟩
  rcases h1.2 with ⟨hv,h0⟩ | ⟨g,cap,cur,hv,hg,hh,hnc,hcm,hsz,htk⟩
  · omega
  · injection hv with e1 e2 e3
    refine⟨g,x,e1,e2,?_,h3 i x y hx hy⟩
    rw[←htk,List.getElem?_take] at hx
    split at hx
    · simp only[World.cell?,hh]
      simpa using hx
    · cases hx
theorem cell8 {w:World}{A:Option Addr}{n c:Nat}{xs:List Int}(h:BS w (.slice A n c) xs){i:Nat}{x:Int}(hx:xs[i]? = some x) : ∃g o,A=some ⟨g,o,none⟩∧n=xs.length∧w.cell? ⟨g,o+i,none⟩=some (.int .u8 x):=by
  have hl:=(List.getElem?_eq_some_iff.1 hx).1
  rcases h.2.2 with ⟨_,h0⟩ | ⟨g,o,cap,cur,fz,hv,hh,hnc,hcm,hsz,htk⟩
  · omega
  · injection hv with h1 h2 h3
    subst h1 h2 h3
    refine⟨g,o,rfl,rfl,?_⟩
    have:(xs.map (Value.int .u8))[i]? = some (.int .u8 x):=by rw[List.getElem?_map,hx];rfl
    rw[←htk,List.getElem?_take,if_pos (by omega),List.getElem?_drop] at this
    simp[World.cell?,hh,←this]
theorem samebytes_calls (u v:Value)(xs ys:List Int)(w:World)(hx:BS w u xs)(hy:BS w v ys) :
    Calls Tryz.prog 99 #[u,v] w fun e w'=>e = .returned (.bool (decide (xs=ys)))∧∃m,w'=w.drewN m:=by
  obtain⟨A,c,hu,_⟩:=Rd.form hx
  obtain⟨B,d,hv,_⟩:=Rd.form hy
  subst hu hv
  have HX:=Aside0.mk hx
  have HY:=Aside0.mk hy
  have hm:xs.length≤1000000:=hx.2.1
  obtain⟨n,hn⟩ : ∃n,xs.length=n:=⟨_,rfl⟩
  obtain⟨m,hm2⟩ : ∃m,ys.length=m:=⟨_,rfl⟩
  have HN:=Aside0.mk hn
  have HM:=Aside0.mk hm2
  have hm3:ys.length≤1000000:=hy.2.1
  rw[hn] at hx hm ⊢
  rw[hm2] at hy hm3 ⊢
  clear hx hy hn hm2
  by_cases hne:n=m
  · subst hne
    go_enter Tryz.func99,Tryz.ntmps99
    go_wp2_with fail
    go_loopg [5] (n+1) (fun kq v5 w' => ∃(i:Int),v5 = .int .i64 i∧Aside0 (0≤i∧i≤n∧(kq:Int)=n+1 - i)∧Aside0 (xs.take i.toNat=ys.take i.toNat)∧Aside0 (∃m,w'=w.drewN m))
    case atStart=>exact⟨0,rfl,⟨by omega,by omega,by omega⟩,⟨rfl⟩,⟨⟨0,rfl⟩⟩⟩
    case round=>
      obtain⟨i,rfl,HI,HE,HD⟩:=hrel
      have HB:=Aside0.mk (show Below w.heap.size w wr from by obtain⟨m,rfl⟩:=HD.out;exact pw_below_drewN (Below.refl _ _) _)
      have hi0:0≤i:=HI.out.1
      by_cases hlt:i<n
      · obtain⟨x,hx⟩ : ∃x,xs[i.toNat]? = some x:=⟨_,List.getElem?_eq_getElem (by have:=HN.out;omega)⟩
        obtain⟨y,hy⟩ : ∃y,ys[i.toNat]? = some y:=⟨_,List.getElem?_eq_getElem (by have:=HM.out;omega)⟩
        obtain⟨g,o,rfl,_,hc⟩:=cell8 (HX.out.below HB.out) hx
        obtain⟨g',o',rfl,_,hc'⟩:=cell8 (HY.out.below HB.out) hy
        have e1:xs.take (i.toNat+1)=xs.take i.toNat++[x]:=by
          obtain⟨h1,h2⟩:=List.getElem?_eq_some_iff.1 hx
          rw[List.take_succ_eq_append_getElem h1,h2]
        have e2:ys.take (i.toNat+1)=ys.take i.toNat++[y]:=by
          obtain⟨h1,h2⟩:=List.getElem?_eq_some_iff.1 hy
          rw[List.take_succ_eq_append_getElem h1,h2]
        have HXI:=Aside0.mk hx
        have HYI:=Aside0.mk hy
        have HE1:=Aside0.mk e1
        have HE2:=Aside0.mk e2
        clear hx hy e1 e2
        by_cases hxy:x=y
        · subst hxy
          have q:(x == x)=true:=by simp
          go_wp2_with fail
          go_quiet (fail)
          go_wp2_with fail
          go_roundg (gk - 1)
          case measure=>have:=HI.out;omega
          case rel=>exact⟨i+1,rfl,⟨by omega,by omega,by have:=HI.out;omega⟩,⟨by rw[show (i+1).toNat=i.toNat+1 from by omega,HE1.out,HE2.out,HE.out]⟩,⟨by obtain⟨m,hm⟩:=HD.out;exact⟨m+nq,by rw[hm,World.drewN_drewN]⟩⟩⟩
        · have q:(x == y)=false:=by simp[hxy]
          have HXY:=Aside0.mk (show ¬xs=ys from fun e=>by
            subst e
            rw[HXI.out] at HYI
            have h:=HYI.out
            injection h with h
            exact hxy h)
          clear hxy
          go_wp2_with fail
          go_quiet (fail)
          go_wp2_with fail
          go_ret
          exact⟨by rw[decide_eq_false HXY.out];rfl,by obtain⟨m,hm⟩:=HD.out;exact⟨m+nq,by rw[hm,World.drewN_drewN]⟩⟩
      · have HEQ:=Aside0.mk (show xs=ys by
          have h:=HE.out
          rw[List.take_of_length_le (by have:=HN.out;have:=HI.out;omega),List.take_of_length_le (by have:=HM.out;have:=HI.out;omega)] at h
          exact h)
        go_wp2_with fail
        go_ret
        exact⟨by rw[decide_eq_true HEQ.out];rfl,HD.out⟩
  · have HNE:=Aside0.mk (show ¬xs=ys from fun e=>hne (by rw[←HN.out,←HM.out,e]))
    go_enter Tryz.func99,Tryz.ntmps99
    go_wp2_with fail
    go_ret
    exact⟨by rw[decide_eq_false HNE.out];rfl,0,rfl⟩
theorem samemaster_calls (m:Mst)(w:World) :
    Calls Tryz.prog 44 #[mstV m,mstV m] w fun e w'=>e = .returned (.bool true)∧Below w.heap.size w w':=by
  obtain⟨ep,ba,re,ck,pg,bl,fr⟩:=m
  go_enter Tryz.func44,Tryz.ntmps44
  go_wp2_with fail
  go_ret
  exact⟨by simp,by repeat (first | exact Below.refl _ _ | apply below_alloc)⟩
theorem samesectors_calls (b1 b2:Nat)(u v:Value)(xs ys:List (List Int))(w:World)(hx:SlB w b1 u xs)(hy:SlB w b2 v ys)(hl1:xs.length≤100000)(hl2:ys.length≤100000) :
    Calls Tryz.prog 45 #[u,v] w fun e w'=>e = .returned (.bool (decide (xs=ys)))∧Below w.heap.size w w':=by
  obtain⟨A,c,hu,_⟩:=ow_slice hx.choose_spec.1
  obtain⟨B,d,hv,_⟩:=ow_slice hy.choose_spec.1
  subst hu hv
  have HX:=Aside0.mk hx
  have HY:=Aside0.mk hy
  obtain⟨n,hn⟩ : ∃n,xs.length=n:=⟨_,rfl⟩
  obtain⟨m,hm2⟩ : ∃m,ys.length=m:=⟨_,rfl⟩
  have HN:=Aside0.mk hn
  have HM:=Aside0.mk hm2
  rw[hn] at hx hl1 HX ⊢
  rw[hm2] at hy hl2 HY ⊢
  clear hx hy hn hm2
  by_cases hne:n=m
  · subst hne
    go_enter Tryz.func45,Tryz.ntmps45
    go_wp2_with fail
    go_loopg [5] (n+1) (fun kq v5 w' => ∃(i:Int),v5 = .int .i64 i∧Aside0 (0≤i∧i≤n∧(kq:Int)=n+1 - i)∧Aside0 (xs.take i.toNat=ys.take i.toNat)∧Aside0 (Below w.heap.size w w'))
    case atStart=>exact⟨0,rfl,⟨by omega,by omega,by omega⟩,⟨rfl⟩,⟨Below.refl _ _⟩⟩
    case round=>
      obtain⟨i,rfl,HI,HE,HB⟩:=hrel
      have hi0:0≤i:=HI.out.1
      by_cases hlt:i<n
      · obtain⟨x,hx⟩ : ∃x,xs[i.toNat]? = some x:=⟨_,List.getElem?_eq_getElem (by have:=HN.out;omega)⟩
        obtain⟨y,hy⟩ : ∃y,ys[i.toNat]? = some y:=⟨_,List.getElem?_eq_getElem (by have:=HM.out;omega)⟩
        obtain⟨g,xv,rfl,-,hc,hxv⟩:=(HX.out.below HB.out).at hx
        obtain⟨g',yv,rfl,-,hc',hyv⟩:=(HY.out.below HB.out).at hy
        obtain⟨n1,m1,rfl,_⟩:=Rd.form hxv
        obtain⟨n2,m2,rfl,_⟩:=Rd.form hyv
        have e1:xs.take (i.toNat+1)=xs.take i.toNat++[x]:=by
          obtain⟨h1,h2⟩:=List.getElem?_eq_some_iff.1 hx
          rw[List.take_succ_eq_append_getElem h1,h2]
        have e2:ys.take (i.toNat+1)=ys.take i.toNat++[y]:=by
          obtain⟨h1,h2⟩:=List.getElem?_eq_some_iff.1 hy
          rw[List.take_succ_eq_append_getElem h1,h2]
        have HXI:=Aside0.mk hx
        have HYI:=Aside0.mk hy
        have HE1:=Aside0.mk e1
        have HE2:=Aside0.mk e2
        obtain⟨bb,hbb⟩ : ∃bb,decide (x=y)=bb:=⟨_,rfl⟩
        have HSB:=Aside0.mk (fun (k:Nat)=>(show Calls Tryz.prog 99 #[.slice n1 x.length m1,.slice n2 y.length m2] (wr.drewN k) fun e w'=>e = .returned (.bool bb)∧∃m,w'=(wr.drewN k).drewN m from by
          rw[←hbb]
          exact samebytes_calls _ _ x y _ (hxv.below (pw_below_drewN (Below.refl _ _) _)) (hyv.below (pw_below_drewN (Below.refl _ _) _))))
        have HBB:=Aside0.mk hbb
        obtain⟨lx,hlx⟩ : ∃l,x.length=l:=⟨_,rfl⟩
        obtain⟨ly,hly⟩ : ∃l,y.length=l:=⟨_,rfl⟩
        rw[hlx] at hc HSB
        rw[hly] at hc' HSB
        clear hx hy e1 e2 hxv hyv hbb hlx hly
        go_wp2_with fail
        go_quiet (first | (go_at_call 99;refine Calls.quiet_of (HSB.out _)))
        cases bb with
        | true=>
          have hxy:=of_decide_eq_true HBB.out
          subst hxy
          go_wp2_with fail
          go_roundg (gk - 1)
          case measure=>have:=HI.out;omega
          case rel=>exact⟨i+1,rfl,⟨by omega,by omega,by have:=HI.out;omega⟩,⟨by rw[show (i+1).toNat=i.toNat+1 from by omega,HE1.out,HE2.out,HE.out]⟩,⟨pw_below_drewN HB.out _⟩⟩
        | false=>
          have HXY:=Aside0.mk (show ¬xs=ys from fun e=>by
            subst e
            rw[HXI.out] at HYI
            have h:=HYI.out
            injection h with h
            exact of_decide_eq_false HBB.out h)
          go_wp2_with fail
          go_ret
          exact⟨by rw[decide_eq_false HXY.out];rfl,pw_below_drewN HB.out _⟩
      · have HEQ:=Aside0.mk (show xs=ys by
          have h:=HE.out
          rw[List.take_of_length_le (by have:=HN.out;have:=HI.out;omega),List.take_of_length_le (by have:=HM.out;have:=HI.out;omega)] at h
          exact h)
        go_wp2_with fail
        go_ret
        exact⟨by rw[decide_eq_true HEQ.out];rfl,HB.out⟩
  · have HNE:=Aside0.mk (show ¬xs=ys from fun e=>hne (by rw[←HN.out,←HM.out,e]))
    go_enter Tryz.func45,Tryz.ntmps45
    go_wp2_with fail
    go_ret
    exact⟨by rw[decide_eq_false HNE.out];rfl,Below.refl _ _⟩
theorem news_one (W:World)(b:Nat)(hb:W.heap.size=b)(u:Value)(e:Nat) : ∀j x,[u][j]? = some x→(W.alloc (.cells #[u] e)).cell? ((⟨b,0,none⟩:Addr).add j)=some x:=by
  subst hb
  intro j x hx
  exact World.news_of_block (heap_alloc_new W _) j x hx
theorem image_disk (M:Nat→Prop)(p:Nat)(d:Dsk)(w:World)(hd:DskM M w p d) :
    Calls Tryz.prog 42 #[.pointer (some ⟨p,0,none⟩)] w fun e w' => ∃v',e = .returned v'∧SlB w' w.heap.size v' (d.l.map Sec.fast)∧Below w.heap.size w w':=by
  obtain⟨i0,hi,hzz⟩:=Option.map_eq_some_iff.1 info_bytes2
  simp only[Prod.mk.injEq] at hzz
  obtain⟨hz0,hz1,hz2⟩:=hzz
  obtain⟨g,cap,rs,hd⟩:=hd
  obtain⟨hc0,hc1,hc2⟩:=hd.cells
  have HD:=Aside0.mk hd
  have hfew:=hd.few
  obtain⟨n,hn⟩ : ∃n,d.l.length=n:=⟨_,rfl⟩
  have HN:=Aside0.mk hn
  rw[hn] at hc0 hfew
  have HI0:=Aside0.mk (And.intro hi (And.intro hz0 (And.intro hz1 hz2)))
  clear hd hn hi hz0 hz1 hz2 hc1 hc2
  go_enter Tryz.func42,Tryz.ntmps42
  go_wp2_with fail
  go_loopg [3,11] (n+1) (fun kq v3 v11 w' => ∃(i:Int) (sl:Value),v3=sl∧v11 = .int .i64 i∧Aside0 (0≤i∧i≤n∧(kq:Int)=n+1 - i)∧Aside0 (SlB w' w.heap.size sl ((d.l.map Sec.fast).take i.toNat))∧Aside0 (Below w.heap.size w w'))
  case atStart=>exact⟨0,_,rfl,rfl,⟨by omega,by omega,by omega⟩,⟨SlB.nil _ _⟩,⟨Below.refl _ _⟩⟩
  case round=>
    obtain⟨i,sl,rfl,rfl,HI,HO,HB⟩:=hrel
    have hi0:0≤i:=HI.out.1
    by_cases hlt:i<n
    · obtain⟨s,hs⟩ : ∃s,d.l[i.toNat]? = some s:=⟨_,List.getElem?_eq_getElem (by have:=HN.out;omega)⟩
      obtain⟨r,hr⟩ : ∃r,rs[i.toNat]? = some r:=⟨_,List.getElem?_eq_getElem (by have:=HN.out;have:=HD.out.len;omega)⟩
      have HDW:=Aside0.mk (HD.out.move fun k hk _=>HB.out.block k hk)
      obtain⟨c0,c1⟩:=HDW.out.sec hr
      obtain⟨h1,⟨vs,h2,h3⟩,h4⟩:=HDW.out.secs _ _ _ hr hs
      obtain⟨A1,cc1,hv1,_⟩:=Rd.form h1
      obtain⟨A2,cc2,hv2,_⟩:=ow_slice h2
      obtain⟨u,v⟩:=r
      simp only at c0 c1 hv1 hv2 h1
      have HCL:=Aside0.mk (fun (V:World) (hb:Below wr.heap.size wr V)=>clone_bytes u s.fast.length (s.fast.map (.int .u8)) V (Rd.below h1 hb) (by
        intro x hx
        obtain⟨y,_,rfl⟩:=List.mem_map.1 hx
        rfl))
      subst hv1 hv2
      obtain⟨fl,hfl⟩ : ∃m,s.fast.length=m:=⟨_,rfl⟩
      obtain⟨m,hm⟩ : ∃m,s.loose.length=m:=⟨_,rfl⟩
      have HSUC:=Aside0.mk (show (d.l.map Sec.fast).take (i.toNat+1)=(d.l.map Sec.fast).take i.toNat++[s.fast] by
        have:(d.l.map Sec.fast)[i.toNat]? = some s.fast:=by rw[List.getElem?_map,hs];rfl
        obtain⟨q1,q2⟩:=List.getElem?_eq_some_iff.1 this
        rw[List.take_succ_eq_append_getElem q1,q2])
      have HFL:=Aside0.mk hfl
      rw[hm] at c1
      rw[hfl] at c0 HCL
      have hsz:=HB.out.size
      have HTL:=Aside0.mk (show ((d.l.map Sec.fast).take i.toNat).length=i.toNat by rw[List.length_take,List.length_map];have:=HN.out;omega)
      have HSS:=Aside0.mk hs
      clear h1 h2 h3 h4 hs hr hm hfl
      go_wp2_with fail
      refine (HCL.out _ (by repeat (first | exact Below.refl _ _ | apply below_drew1 | apply below_alloc))).mono ?_
      rintro e wz ⟨nv,rfl,hnv,hbz⟩
      obtain⟨A3,c3,hv3,_⟩:=ow_slice hnv
      obtain⟨ql,hql⟩ : ∃ql,i.toNat=ql:=⟨_,rfl⟩
      obtain⟨vs,o1,o2,o3⟩:=HO.out
      rw[HTL.out] at o1 o2
      subst hv3
      have HVS:=Aside0.mk (And.intro o2 o3)
      obtain⟨hi,hz0,hz1,hz2⟩:=HI0.out
      have hql5:ql≤100000:=by have:=HI.out;omega
      have HNV:=Aside0.mk hnv
      have HBZ:=Aside0.mk (show Below wr.heap.size wr wz from below_step (by repeat (first | exact Below.refl _ _ | apply below_drew1 | apply below_alloc)) hbz)
      have hszz:=HBZ.out.size
      rw[hql] at o1 o2
      have HO1:=Aside0.mk o1
      clear o1 o2 o3 hnv hbz
      go_wp2_with (at_builtin;refine wpList_append_lies _ (by rfl) _ _ 88 (by rfl) w.heap.size 93 i0 (.slice none 0 0) 1 24 Tryz.underlying88 hi hz0 hz1 hz2 rfl (by decide) _ ql vs (by rfl) (by exact ow_below HO1.out (below_step HBZ.out (by repeat (first | exact Below.refl _ _ | apply below_drew1 | apply below_alloc)))) ⟨wz.heap.size,0,none⟩ 1 1 [.slice A3 fl c3] (by rfl) rfl (by exact news_one _ _ (by simp) _ _) (by intro u hu;simp at hu;subst hu;rfl) (by decide) (by unfold maxLen;omega) (by omega) (by simp;omega) (wz.heap.size+1) (by simp) ?_)
      intro g2 cap2 w3 hown hgr hor hlt3
      have HB3:=Aside0.mk (show Below w.heap.size w w3 from (below_step HB.out (below_step HBZ.out (by repeat (first | exact Below.refl wz.heap.size wz | apply below_drew1 | apply below_alloc)))).grown hgr (by simp;omega) (fun k hk=>(ow_block HO1.out hk).1))
      have HMV:=Aside0.mk (show ∀x b,BS wz x b→BS w3 x b from fun x b hx=>Rd.move hx fun k hk=>by
        obtain⟨c,fz,hc⟩:=Rd.block hx hk
        refine (hgr.block k (by have:=heap_lt hc;simp;omega) fun e => ?_).trans (Below.heap_alloc wz _ _ (heap_lt hc))
        obtain⟨_,c2,hc2⟩:=ow_block HO1.out e.symm
        rw[HBZ.out.block k (heap_lt hc2),hc2] at hc
        injection hc with hc
        injection hc with _ h2
        exact absurd h2 (by decide))
      have HOWN:=Aside0.mk hown
      clear hown hgr hor hlt3 hi hz0 hz1 hz2
      go_wp2_with fail
      go_roundg (gk - 1)
      case measure=>have:=HI.out;omega
      case rel=>
        refine⟨i+1,_,rfl,rfl,⟨by omega,by omega,by have:=HI.out;omega⟩,⟨?_⟩,HB3⟩
        have hql2:i.toNat=ql:=hql
        rw[show (i+1).toNat=i.toNat+1 from by omega,HSUC.out]
        obtain⟨o2,o3⟩:=HVS.out
        refine⟨vs++[.slice A3 fl c3],?_,by rw[List.length_append,List.length_append,o2,HTL.out];rfl,fun j x y hx hy => ?_⟩
        · rw[List.length_append,HTL.out,hql2]
          exact HOWN.out
        · by_cases hj:j<vs.length
          · rw[List.getElem?_append_left hj] at hx
            rw[List.getElem?_append_left (by rw[HTL.out,←o2];exact hj)] at hy
            exact HMV.out _ _ ((o3 j x y hx hy).below HBZ.out)
          · have hjl:=(List.getElem?_eq_some_iff.1 hx).1
            rw[List.length_append] at hjl
            simp only[List.length_cons,List.length_nil] at hjl
            have hje:j=vs.length:=by omega
            subst hje
            rw[List.getElem?_append_right (Nat.le_refl _),Nat.sub_self] at hx
            rw[o2,List.getElem?_append_right (by rw[HTL.out];exact Nat.le_refl _),HTL.out,Nat.sub_self] at hy
            simp at hx hy
            subst hx hy
            refine HMV.out _ _ ?_
            have hfl:=HFL.out
            subst hfl
            exact Rd.of_own HNV.out (by have:=(HD.out.ok s (List.mem_of_getElem? HSS.out)).1.1;omega)
    · have HE:=Aside0.mk (show i.toNat=n by have:=HI.out;omega)
      have hO:=HO.out
      rw[HE.out,List.take_of_length_le (by rw[List.length_map];have:=HN.out;omega)] at hO
      have HO2:=Aside0.mk hO
      clear hO
      go_wp2_with fail
      go_ret
      exact⟨_,rfl,HO2.out,HB.out⟩
end Go.Proofs.YtaplpeoikebedaaGreatDoor.ImgT
namespace Go.Proofs.YtaplpeoikebedaaGreatDoor.RefM
open Go.RowKit YtaplpeoikebedaaGreatDoorW.PrintWords YtaplpeoikebedaaGreatDoorW.PrintLast YtaplpeoikebedaaGreatDoorW.PrintMore
open RefN See Mem Clone Go.Proofs.YtaplpeoikebedaaGreatDoor.Cell Page PageB PageR Disk DiskN
attribute [local go_sem] max2_imax min2_imin max_two min_two
theorem mas7g {w:World}{b:Nat}{x0 x1 x2 x3 x4 x5 x6:Value}(h:w.heap[b]? = some (.cells #[x0,x1,x2,x3,x4,x5,x6] 84 (0,0))) :
    w.cell? ⟨b,0,none⟩=some x0∧w.cell? ⟨b,1,none⟩=some x1∧w.cell? ⟨b,2,none⟩=some x2∧w.cell? ⟨b,3,none⟩=some x3∧w.cell? ⟨b,4,none⟩=some x4∧w.cell? ⟨b,5,none⟩=some x5∧w.cell? ⟨b,6,none⟩=some x6:=by
  refine⟨?_,?_,?_,?_,?_,?_,?_⟩<;>simp[World.cell?,h]
theorem rnew2_calls (m0 m1 m2 m3 m4 m5 m6 c0 c1 c2 c3:Int)(dp pp:Nat)(l m:Value)(lp:Nat)(w:World)(hm:m = .agg #[.int .i64 m0,.int .i64 m1,.int .i64 m2,.int .i64 m3,.int .i64 m4,.int .i64 m5,.int .i64 m6])(hl:l = .pointer (some ⟨lp,0,none⟩))(hc1:0≤c1∧c1≤100)(k2:w.cell? ⟨lp,2,none⟩=some (.int .i64 c1))(k3:w.cell? ⟨lp,3,none⟩=some (.int .i64 0))(k5:w.cell? ⟨lp,5,none⟩=some (.slice none 0 0)) :
    Calls Tryz.prog 83 #[.agg #[.int .i64 c0,.int .i64 c1,.int .i64 c2,.int .i64 c3],.pointer (some ⟨dp,0,none⟩),l,.pointer (some ⟨pp,0,none⟩),.int .i64 0,m] w fun e w' => ∃q,e = .returned (.pointer (some ⟨q,0,none⟩))∧Below w.heap.size w w':=by
  subst hl
  subst hm
  have HR:=Aside0.mk (fun (V:World) (hb:Below w.heap.size w V)=>rroom_calls lp c1 V hc1 (pw_cell_below hb k2) (pw_cell_below hb k3) (pw_cell_below hb k5))
  clear k2 k3 k5
  obtain⟨W,hW⟩ : ∃W,(w.alloc (.cells #[.int .i64 c0,.int .i64 c1,.int .i64 c2,.int .i64 c3] 31)).alloc (.cells #[.int .i64 m0,.int .i64 m1,.int .i64 m2,.int .i64 m3,.int .i64 m4,.int .i64 m5,.int .i64 m6] 84)=W:=⟨_,rfl⟩
  have HBW:=Aside0.mk (show Below w.heap.size w W by rw[←hW];repeat (first | exact Below.refl _ _ | apply below_alloc))
  have HCF:=Aside0.mk (show W.heap[w.heap.size]? = some (.cells #[.int .i64 c0,.int .i64 c1,.int .i64 c2,.int .i64 c3] 31 (0,0)) by
    rw[←hW];exact (Below.heap_alloc _ _ _ (by show _<(w.heap.push _).size;rw[Array.size_push];omega)).trans (heap_alloc_new w _))
  have HMA:=Aside0.mk (show W.heap[w.heap.size+1]? = some (.cells #[.int .i64 m0,.int .i64 m1,.int .i64 m2,.int .i64 m3,.int .i64 m4,.int .i64 m5,.int .i64 m6] 84 (0,0)) by
    rw[←hW]
    have:=heap_alloc_new (w.alloc (.cells #[.int .i64 c0,.int .i64 c1,.int .i64 c2,.int .i64 c3] 31)) (.cells #[.int .i64 m0,.int .i64 m1,.int .i64 m2,.int .i64 m3,.int .i64 m4,.int .i64 m5,.int .i64 m6] 84)
    rw[show (w.alloc (.cells #[.int .i64 c0,.int .i64 c1,.int .i64 c2,.int .i64 c3] 31)).heap.size=w.heap.size+1 from by show (w.heap.push _).size=_;rw[Array.size_push]] at this
    exact this)
  obtain⟨a0,a1,a2,a3⟩:=cfg4 HCF.out
  obtain⟨e0,e1,e2,e3,e4,e5,e6⟩:=mas7g HMA.out
  have HWE:=Aside0.mk hW
  clear hW
  go_enter Tryz.func83,Tryz.ntmps83
  go_upto_region 1 with fail
  rw[HWE.out]
  go_cut [13] (fun v13 wx => ∃(q:Nat),v13 = .pointer (some ⟨q,0,none⟩)∧Aside0 (wx.cell? ⟨q,10,none⟩=some (.int .i64 0)∧wx.frozen? ⟨q,10,none⟩=false)∧Aside0 (w.heap.size≤q)∧Aside0 (Below w.heap.size w wx))
  case first=>
    go_region_law (first
      | (go_simp;go_at_call 141;refine (HR.out _ (by repeat (first | exact HBW.out | apply below_drew1 | apply below_alloc))).mono ?_;rintro e wa ⟨rr,rfl,hba⟩;obtain⟨b0,b1,b2,b3⟩:=cfg4 ((hba.block _ (heap_lt HCF.out)).trans HCF.out);obtain⟨f0,f1,f2,f3,f4,f5,f6⟩:=mas7g ((hba.block _ (heap_lt HMA.out)).trans HMA.out))
      | (go_simp;go_at_call 140;refine (rspace_calls rr _).mono ?_;rintro e wb ⟨pb,rfl,hbb⟩;have hbc:=below_step hba hbb;obtain⟨g0,g1,g2,g3⟩:=cfg4 ((hbc.block _ (heap_lt HCF.out)).trans HCF.out);obtain⟨h0,h1,h2,h3,h4,h5,h6⟩:=mas7g ((hbc.block _ (heap_lt HMA.out)).trans HMA.out)))
    all_goals
      have hwb:=below_step HBW.out (show Below W.heap.size W wb from⟨hbc.os,hbc.tape,hbc.output,hbc.size,hbc.block⟩)
      have hws:=hwb.size
      clear a0 a1 a2 a3 e0 e1 e2 e3 e4 e5 e6 b0 b1 b2 b3 f0 f1 f2 f3 f4 f5 f6 g0 g1 g2 g3 h0 h1 h2 h3 h4 h5 h6
      go_wp2_with fail
      go_meet
      exact⟨_,rfl,⟨cellx (heap_alloc_new _ _) rfl⟩,⟨hws⟩,⟨by repeat (first | exact hwb | apply below_drew1 | apply below_alloc)⟩⟩
  case rest=>
    obtain⟨q,rfl,HQ,HQL,HB⟩:=hcut
    generalize wc=V at HQ HB ⊢
    clear a0 a1 a2 a3 e0 e1 e2 e3 e4 e5 e6
    go_wp2_with fail
    refine (rseen_calls q 9 _ HQ.out.1 HQ.out.2).mono ?_
    rintro e V2 ⟨⟨v,rfl⟩,v2,rfl⟩
    have HF:=Aside0.mk (show Below w.heap.size w (V.setCell ⟨q,10,none⟩ v) from HB.out.setCell HQL.out v)
    generalize V.setCell ⟨q,10,none⟩ v=V3 at HF ⊢
    go_wp2_with fail
    go_ret
    first
      | exact⟨⟨_,rfl⟩,HF.out⟩
      | exact⟨_,rfl,HF.out⟩
end Go.Proofs.YtaplpeoikebedaaGreatDoor.RefM
namespace Go.Proofs.YtaplpeoikebedaaGreatDoor.CkptN
open Go.RowKit Go.Maps YtaplpeoikebedaaGreatDoorW.PrintWords YtaplpeoikebedaaGreatDoorW.PrintLast YtaplpeoikebedaaGreatDoorW.PrintMore
open See Mem Page Disk DiskN RecD Pool2 Pool3 Wal Fresh SysD SysM StoreD StoreF StoreI StoreJ RoomD TransT LockT LockU SpaceT WaitT FwdM FwdP FwdC FwdN FwdO FwdB FwdG First17 RefN BackM BackV BackM BackN RefN RefM MasC CkptM CkptK
attribute [local go_sem] max2_imax min2_imin max_two min_two
def MadePost19 (P blocks frames sess:Int)(w:World)(e:Ending)(w':World):Prop:=
  ∃cp bp bm sp lp pp dp qp mp q,e = .returned (.tuple #[.pointer (some ⟨cp,0,none⟩),.pointer (some ⟨q,0,none⟩),.pointer (some ⟨dp,0,none⟩)])∧CkM (fun k=>w.heap.size≤k) w' cp bp bm sp lp pp dp qp mp blocks frames (newB (newF P blocks frames sess)) ⟨1,0,1,0,P,blocks,frames⟩∧Below w.heap.size w w'
theorem made19_calls (P blocks frames sess:Int)(h1:1≤P∧P≤32)(h2:1≤blocks∧blocks≤100)(h3:1≤frames∧frames≤8)(w:World) :
    Calls Tryz.prog 40 #[.agg #[.int .i64 P,.int .i64 blocks,.int .i64 frames,.int .i64 sess]] w (MadePost19 P blocks frames sess w):=by
  obtain⟨n1,hn1⟩ : ∃n,1+P=n:=⟨_,rfl⟩
  obtain⟨n2,hn2⟩ : ∃n,n1+blocks=n:=⟨_,rfl⟩
  obtain⟨n3,hn3⟩ : ∃n,P+1=n:=⟨_,rfl⟩
  have e1:IntKind.i64.wrap (1+P)=n1:=by rw[IntKind.wrap_i64];omega
  have e2:IntKind.i64.wrap (n1+blocks)=n2:=by rw[IntKind.wrap_i64];omega
  have e3:IntKind.i64.wrap (P+1)=n3:=by rw[IntKind.wrap_i64];omega
  have HN2:=Aside0.mk (show secsN n2=(1+P+blocks).toNat from by unfold secsN;rw[imax_eq,imin_eq];omega)
  have HN3:=Aside0.mk hn3
  have HFR:=Aside0.mk (show imin (imax frames 1) 8=frames by rw[imax_eq,imin_eq];omega)
  have H123:=Aside0.mk (And.intro h1 (And.intro h2 h3))
  clear h1 h2 h3 hn1 hn2 hn3
  go_enter Tryz.func40,Tryz.ntmps40
  go_wp2_with fail
  refine (new_disk n2 _).mono ?_
  rintro e w0 ⟨dp,rfl,hd,hb⟩
  have HCF0:=Aside0.mk (show w0.heap[w.heap.size]? = some (.cells #[.int .i64 P,.int .i64 blocks,.int .i64 frames,.int .i64 sess] 31 (0,0)) from (hb.block w.heap.size (by show _<(w.heap.push _).size;rw[Array.size_push];omega)).trans (heap_alloc_new w _))
  rw[HN2.out] at hd
  have HD0:=Aside0.mk hd
  have HB0:=Aside0.mk (below_step (below_alloc (Below.refl w.heap.size w) _) hb)
  clear hd hb
  go_wp2_with fail
  refine (rdisk_calls n2 w0).mono ?_
  rintro e w1 ⟨rd,rfl,hb⟩
  have HB:=Aside0.mk (below_step HB0.out hb)
  have HD:=Aside0.mk (HD0.out.below hb)
  have HCF1:=Aside0.mk (cfg_keep HCF0.out hb)
  have hs1:w.heap.size≤w1.heap.size:=HB.out.size
  clear hb
  obtain⟨c0,c1,c2,c3⟩:=cfg_cells HCF1.out
  have hl1:=heap_lt HCF1.out
  go_wp2_with fail
  refine (new_log dp n3 blocks 0 1 _).mono ?_
  rintro e w2 ⟨rfl,hw2⟩
  have HW2:=Aside0.mk hw2
  have HB2:=Aside0.mk (show Below w1.heap.size w1 w2 by rw[hw2];exact below_alloc (Below.refl _ _) _)
  have HCF2:=Aside0.mk (cfg_keep HCF1.out HB2.out)
  clear hw2 c0 c1 c2 c3 hl1
  obtain⟨c0,c1,c2,c3⟩:=cfg_cells HCF2.out
  have hl1:=heap_lt HCF2.out
  go_wp2_with fail
  refine (rlog_calls rd n3 blocks 0 1 w2).mono ?_
  rintro e w3 ⟨rfl,hrl,hb⟩
  have HRL3:=Aside0.mk hrl
  have HB3:=Aside0.mk hb
  have HCF3:=Aside0.mk (cfg_keep HCF2.out hb)
  clear hrl hb c0 c1 c2 c3 hl1
  obtain⟨c0,c1,c2,c3⟩:=cfg_cells HCF3.out
  have hl1:=heap_lt HCF3.out
  go_wp2_with fail
  refine (new_pool dp _ frames _).mono ?_
  rintro e w4 ⟨rfl,hw4⟩
  have HW4:=Aside0.mk hw4
  rw[HFR.out] at HW4
  have HB4:=Aside0.mk (show Below w3.heap.size w3 w4 by rw[hw4];exact below_alloc (Below.refl _ _) _)
  have HCF4:=Aside0.mk (cfg_keep HCF3.out HB4.out)
  clear hw4 c0 c1 c2 c3 hl1
  have HX:=Aside0.mk (show SysM (fun k=>w.heap.size≤k) w4 w3.heap.size w1.heap.size dp (newF P blocks frames sess).S by
    have hs1:=HB.out.size
    have hs2:=HB2.out.size
    have hs3:=HB3.out.size
    have hp4:w4.heap[w3.heap.size]? = some (.cells (poolCells (.slice none 0 0) dp w1.heap.size frames (.slice none 0 0)) 163 (0,0)):=by rw[HW4.out];exact heap_alloc_new _ _
    have hl2:w2.heap[w1.heap.size]? = some (.cells (logCells dp n3 blocks 0 1 (.slice none 0 0) 0) 121 (0,0)):=by rw[HW2.out];exact heap_alloc_new _ _
    have hl4:=cfg_keep (cfg_keep hl2 HB3.out) HB4.out
    have:=H123.out
    rw[←HN3.out] at hl4
    exact sys0_mem ((((HD.out.mono fun k hk=>by
      have:(w.alloc (.cells #[.int .i64 P,.int .i64 blocks,.int .i64 frames,.int .i64 sess] 31)).heap.size=w.heap.size+1:=by show (w.heap.push _).size=_;rw[Array.size_push]
      have hk2:(w.alloc (.cells #[.int .i64 P,.int .i64 blocks,.int .i64 frames,.int .i64 sess] 31)).heap.size≤k:=hk
      show w.heap.size≤k
      omega).below HB2.out).below HB3.out).below HB4.out) hl4 hp4 (by omega) (by omega) (by omega) (by omega) (by omega))
  obtain⟨c0,c1,c2,c3⟩:=cfg_cells HCF4.out
  have hl1:=heap_lt HCF4.out
  have HB40:=Aside0.mk (below_step (below_step (below_step HB.out HB2.out) HB3.out) HB4.out)
  have HROOM:=Aside0.mk (show (newF P blocks frames sess).S.l.room=blocks*6 from by
    have:=H123.out
    have e:(newF P blocks frames sess).S.l.room=max (min (blocks*6 - 0) (1073741824 - (0+0))) 0:=rfl
    rw[e];omega)
  go_wp2_with fail
  refine (new_calls _ w1.heap.size w3.heap.size dp (newF P blocks frames sess).S P blocks frames sess 0 _ HX.out (by rw[HROOM.out];have:=H123.out;omega) (Int.le_refl 0)).mono ?_
  rintro e w5 ⟨sp,qp,mp,rfl,hf,hb⟩
  rw[HROOM.out] at hf
  have HF:=Aside0.mk (show FwM (fun k=>w.heap.size≤k) w5 sp w1.heap.size w3.heap.size dp qp mp blocks frames (newF P blocks frames sess) from fw_up HB40.out hf)
  have HB5:=Aside0.mk (below_step HB40.out hb)
  have HCF5:=Aside0.mk (cfg_keep HCF4.out hb)
  have HRL5:=Aside0.mk (cfg_keep (cfg_keep HRL3.out HB4.out) hb)
  clear hf hb c0 c1 c2 c3 hl1
  obtain⟨c0,c1,c2,c3⟩:=cfg_cells HCF5.out
  have hl1:=heap_lt HCF5.out
  go_wp2_with fail
  refine (bnew_calls w.heap.size sp w1.heap.size w3.heap.size dp qp mp blocks frames (newF P blocks frames sess) w5 HF.out HB5.out.size).mono ?_
  rintro e w6 ⟨bp,bm,rfl,hbk,hba⟩
  have HBK6:=Aside0.mk hbk
  have HB6:=Aside0.mk (below_step HB5.out hba)
  have HCF6:=Aside0.mk (cfg_keep HCF5.out hba)
  have HRL6:=Aside0.mk (cfg_keep HRL5.out hba)
  clear hbk hba c0 c1 c2 c3 hl1 HX HROOM HD HD0 HW2 HW4 HB0 HB HB2 HB3 HB4 HB40 HCF0 HCF1 HCF2 HCF3 HCF4 HCF5 HRL3 HRL5 HN2 HFR HF HB5
  obtain⟨c0,c1,c2,c3⟩:=cfg_cells HCF6.out
  have hl1:=heap_lt HCF6.out
  obtain⟨W7,hW7⟩ : ∃W,w6.alloc (.cells #[.int .i64 1,.int .i64 0,.int .i64 1,.int .i64 0,.int .i64 P,.int .i64 blocks,.int .i64 frames] 84)=W:=⟨_,rfl⟩
  have HWE:=Aside0.mk hW7
  have HB67:=Aside0.mk (show Below w6.heap.size w6 W7 by rw[←hW7];exact below_alloc (Below.refl _ _) _)
  have HM7:=Aside0.mk (show W7.heap[w6.heap.size]? = some (.cells #[.int .i64 1,.int .i64 0,.int .i64 1,.int .i64 0,.int .i64 P,.int .i64 blocks,.int .i64 frames] 84 (0,0)) by rw[←hW7];exact heap_alloc_new _ _)
  clear hW7
  go_upto_region 20 with fail
  rw[HWE.out]
  have HBK7:=Aside0.mk (HBK6.out.below HB67.out)
  have HB7:=Aside0.mk (below_step HB6.out HB67.out)
  have HCF7:=Aside0.mk (cfg_keep HCF6.out HB67.out)
  have HRL7:=Aside0.mk (cfg_keep HRL6.out HB67.out)
  clear HBK6 HB6 HCF6 HRL6 HB67 HWE c0 c1 c2 c3 hl1
  have HNEW:=Aside0.mk (fun (V:World)=>(show Calls Tryz.prog 94 #[.pointer (some ⟨bp,0,none⟩),.pointer (some ⟨dp,0,none⟩),.agg #[.int .i64 1,.int .i64 0,.int .i64 1,.int .i64 0,.int .i64 P,.int .i64 blocks,.int .i64 frames]] V fun e w' => ∃cp,e = .returned (.pointer (some ⟨cp,0,none⟩))∧V.heap.size≤cp∧w'.heap[cp]? = some (.cells (ckCells bp dp ⟨1,0,1,0,P,blocks,frames⟩) 86 (0,0))∧Below V.heap.size V w' from cknew_calls 0 bp dp ⟨1,0,1,0,P,blocks,frames⟩ V))
  have HNP:=Aside0.mk (fun (V:World)=>(rpool_calls rd w2.heap.size frames V).mono (fun e w' hh=>(⟨_,hh.1,hh.2⟩ : ∃q,e = .returned (.pointer (some ⟨q,0,none⟩))∧Below V.heap.size V w')))
  have HRN:=Aside0.mk (fun (q:Nat) (V:World) (hb:Below W7.heap.size W7 V)=>rnew2_calls 1 0 1 0 P blocks frames P blocks frames sess rd q (.pointer (some ⟨w2.heap.size,0,none⟩)) (.agg #[.int .i64 1,.int .i64 0,.int .i64 1,.int .i64 0,.int .i64 P,.int .i64 blocks,.int .i64 frames]) w2.heap.size V rfl rfl (by have:=H123.out;omega) (cellx (cfg_keep HRL7.out hb) rfl).1 (cellx (cfg_keep HRL7.out hb) rfl).1 (cellx (cfg_keep HRL7.out hb) rfl).1)
  have HCK:=Aside0.mk (fun (V:World) (hb:Below W7.heap.size W7 V)=>And.intro (cfg_cells (cfg_keep HCF7.out hb)) (mas7g (cfg_keep HM7.out hb)))
  obtain⟨⟨c0,c1,c2,c3⟩,⟨m0,m1,m2,m3,m4,m5,m6⟩⟩:=HCK.out W7 (Below.refl _ _)
  have hl1:=heap_lt HCF7.out
  have hl2:=heap_lt HM7.out
  go_cut [2,3,4] (fun v2 v3 v4 wx=>v4 = .pointer (some ⟨dp,0,none⟩)∧∃cp q,v2 = .pointer (some ⟨cp,0,none⟩)∧v3 = .pointer (some ⟨q,0,none⟩)∧Aside0 (W7.heap.size≤cp)∧Aside0 (wx.heap[cp]? = some (.cells (ckCells bp dp ⟨1,0,1,0,P,blocks,frames⟩) 86 (0,0)))∧Aside0 (Below W7.heap.size W7 wx))
  case first=>
    go_region_held3 (fun w'=>w'.cell? ⟨w.heap.size,0,none⟩=some (.int .i64 P)∧w'.cell? ⟨w.heap.size,1,none⟩=some (.int .i64 blocks)∧w'.cell? ⟨w.heap.size,2,none⟩=some (.int .i64 frames)∧w'.cell? ⟨w.heap.size,3,none⟩=some (.int .i64 sess)∧w'.cell? ⟨w6.heap.size,0,none⟩=some (.int .i64 1)∧w'.cell? ⟨w6.heap.size,1,none⟩=some (.int .i64 0)∧w'.cell? ⟨w6.heap.size,2,none⟩=some (.int .i64 1)∧w'.cell? ⟨w6.heap.size,3,none⟩=some (.int .i64 0)∧w'.cell? ⟨w6.heap.size,4,none⟩=some (.int .i64 P)∧w'.cell? ⟨w6.heap.size,5,none⟩=some (.int .i64 blocks)∧w'.cell? ⟨w6.heap.size,6,none⟩=some (.int .i64 frames))
      (first | exact⟨c0,c1,c2,c3,m0,m1,m2,m3,m4,m5,m6⟩ | exact⟨hka.1,hka.2.1,hka.2.2.1,hka.2.2.2,hma⟩ | exact⟨hkb.1,hkb.2.1,hkb.2.2.1,hkb.2.2.2,hmb⟩ | exact⟨hkc.1,hkc.2.1,hkc.2.2.1,hkc.2.2.2,hmc⟩ | go_keep)
      (first
        | (go_at_call 94;refine (HNEW.out _).mono ?_;rintro e wa ⟨cp,rfl,hcp,hch,hba⟩;have hqa:Below W7.heap.size W7 wa:=below_step (by repeat (first | exact hqc | exact hqb | exact Below.refl _ _ | apply below_drew1)) hba;obtain⟨hka,hma⟩:=HCK.out wa hqa)
        | (go_at_call 84;refine (HNP.out _).mono ?_;rintro e wb ⟨q1,rfl,hbb⟩;have hqb:Below W7.heap.size W7 wb:=below_step (by repeat (first | exact hqa | exact Below.refl _ _ | apply below_drew1)) hbb;obtain⟨hkb,hmb⟩:=HCK.out wb hqb)
        | (go_at_call 83;refine (HRN.out q1 _ ?hb).mono ?_;(case hb=>repeat (first | exact hqa | exact hqb | apply below_drew1));rintro e wc ⟨q2,rfl,hbc⟩;have hqc:Below W7.heap.size W7 wc:=below_step (by repeat (first | exact hqa | exact hqb | apply below_drew1)) hbc;obtain⟨hkc,hmc⟩:=HCK.out wc hqc))
    go_wp2_with fail
    go_meet
    exact⟨rfl,cp,q2,rfl,rfl,⟨hcp⟩,⟨((below_step hbb hbc).block _ (heap_lt hch)).trans hch⟩,⟨hqc⟩⟩
  case rest=>
    obtain⟨rfl,cp,q,rfl,rfl,HCP,HCH,HBX⟩:=hcut
    generalize wc=Z at HCH HBX ⊢
    have HBZ:=Aside0.mk (below_step HB7.out HBX.out)
    have HCKM:=Aside0.mk (show CkM (fun k=>w.heap.size≤k) Z cp bp bm sp w1.heap.size w3.heap.size dp qp mp blocks frames (newB (newF P blocks frames sess)) ⟨1,0,1,0,P,blocks,frames⟩ from⟨Cut (fun k=>w.heap.size≤k) W7.heap.size,HCH.out,(HBK7.out.cut).below HBX.out,fun k hk=>⟨hk.1,by have:=hk.2;have:=HCP.out;omega⟩,by have:=HCP.out;have:=HB7.out.size;show w.heap.size≤cp;omega⟩)
    go_wp2_with fail
    exact bodyPost_ret (v:=.tuple #[.pointer (some ⟨cp,0,none⟩),.pointer (some ⟨q,0,none⟩),.pointer (some ⟨dp,0,none⟩)]) (by simp[results,Tryz.results40,go_sem]) rfl ⟨cp,bp,bm,sp,_,_,dp,qp,mp,q,rfl,HCKM.out,HBZ.out⟩
end Go.Proofs.YtaplpeoikebedaaGreatDoor.CkptN
namespace Go.Proofs.YtaplpeoikebedaaGreatDoor.CkptB
open Go.RowKit Go.Maps YtaplpeoikebedaaGreatDoorW.PrintWords YtaplpeoikebedaaGreatDoorW.PrintLast YtaplpeoikebedaaGreatDoorW.PrintMore
open See Mem Page Disk DiskW RecD Wal Pool2 SysD SysM StoreD StoreF TransT SpaceT FwdM FwdP BackM BackU MasC CkptM
attribute [local go_sem] max2_imax min2_imin max_two min_two
theorem reset_busy (a:Nat→Addr)(M:Nat→Prop)(cp bp bm sp lp pp dp qp mp:Nat)(blocks frames:Int)(B:BSt)(m:Mst)(w:World)(h:CkM M w cp bp bm sp lp pp dp qp mp blocks frames B m)(hts:B.F.ts≠[])(hs:SentsAll w a) :
    Calls Tryz.prog 54 #[.pointer (some ⟨cp,0,none⟩)] w fun e w'=>e = .returned (errv a (some 15))∧Below w.heap.size w w':=by
  obtain⟨R,h⟩:=h
  obtain⟨Rb,sl,hb⟩:=h.b
  obtain⟨k0,_⟩:=h.cells
  obtain⟨b0,_⟩:=hb.cells
  have hcl:=heap_lt h.box
  have hbl:=heap_lt hb.box
  obtain⟨nt,hnt⟩ : ∃n,B.F.ts.length=n:=⟨_,rfl⟩
  have HNT:=Aside0.mk hnt
  have hnt0:0<nt:=by
    rw[←hnt]
    exact List.length_pos_iff.2 hts
  have HS:=Aside0.mk hs
  have HF:=Aside0.mk hb.f
  have HP:=Aside0.mk (parts_calls Rb sp lp pp dp qp mp blocks frames B.F w hb.f)
  clear h hb hs hts hnt
  go_enter Tryz.func54,Tryz.ntmps54
  go_wp2_with fail
  refine HP.out.mono ?_
  rintro e w1 ⟨rfl,hb1⟩
  have HB1:=Aside0.mk hb1
  have HAL:=Aside0.mk (show Calls Tryz.prog 79 #[.pointer (some ⟨sp,8,none⟩)] w1 fun e w' => ∃A c,e = .returned (.slice A nt c)∧Below w1.heap.size w1 w' from by
    obtain⟨kv,tv,q1,q2,q3,q4,q5⟩:=(HF.out.below hb1).box
    refine (tall_calls sp 8 tv B.F.ts w1 q4 (by simp[World.cell?,q1,fwCells])).mono ?_
    rintro e w' ⟨v,rfl,hv,hb⟩
    obtain⟨A,c,rfl,_⟩:=ow_slice hv.1
    rw[HNT.out]
    exact⟨A,c,rfl,hb⟩)
  clear hb1 k0 b0 hcl hbl
  go_wp2_with fail
  refine HAL.out.mono ?_
  rintro e w2 ⟨A,c,rfl,hb2⟩
  have HB2:=Aside0.mk (below_step HB1.out hb2)
  have hg:w2.cell? ⟨11,0,none⟩=some (.iface 333 (.pointer (some (a 15)))):=(HS.out.below HB2.out).cell 15 (by decide)
  have hgl:11<w2.heap.size:=World.block_lt_of_cell? _ _ hg
  clear hb2 HAL
  go_wp2_with fail
  go_ret
  exact⟨rfl,HB2.out⟩
end Go.Proofs.YtaplpeoikebedaaGreatDoor.CkptB
