/- Joined texts: DiskN, DiskW. No condition but what each says. -/
import Derived.Test.YtaplpeoikebedaaGreatDoorY5
import Derived.Deep.RegionLaw
set_option maxHeartbeats 8000000
set_option maxRecDepth 100000
set_option linter.unusedVariables false
set_option linter.unusedSimpArgs false
namespace Go.Proofs.YtaplpeoikebedaaGreatDoor.DiskN
open Go.RowKit YtaplpeoikebedaaGreatDoorW.PrintWords YtaplpeoikebedaaGreatDoorW.PrintLast YtaplpeoikebedaaGreatDoorW.PrintMore
open See Mem Clone Go.Proofs.YtaplpeoikebedaaGreatDoor.Cell Page PageB PageR Disk
attribute [local go_sem] max2_imax min2_imin max_two min_two
theorem info_sector:(Tryz.prog.info? 175).map (fun i=>(i.zero,i.size,i.bytes))=some (some (.agg #[.slice none 0 0,.slice none 0 0]),2,48):=by kernel_rfl
def zsec:Sec:=⟨List.replicate 256 0,[]⟩
def zdisk (n:Nat):Dsk:=⟨List.replicate n zsec,false,-1⟩
def secsN (n:Int):Nat:=(imin (imax n 1) 200).toNat
theorem zsec_ok:zsec.ok:=⟨⟨List.length_replicate ..,IsB.zeros _⟩,fun b hb=>absurd hb (List.not_mem_nil)⟩
structure NewM (w0:Nat) (w:World) (sl:Value) (rs:List (Value×Value)):Prop where
  box:w.heap[w0]? = some (.cells #[sl,.bool false,.int .i64 (-1)] 173 (0,0))
  row:w.ownsRow (w0+1) 175 2 sl rs.length (secCells rs)
  secs : ∀r∈rs,BS w r.1 (List.replicate 256 0)∧r.2 = .slice none 0 0
  size:w0+1≤w.heap.size
theorem news_sec (W:World)(b:Nat)(hb:W.heap.size=b)(u v:Value)(e:Nat) : ∀j x,[u,v][j]? = some x→(W.alloc (.cells #[u,v] e)).cell? ((⟨b,0,none⟩:Addr).add j)=some x:=by subst hb;exact news2_at W u v e
theorem len48 {n:Nat}(h:n≤100000):(n+1)*48≤140737488355328:=by omega
theorem one_sec (b:Nat) : ∀u∈[Value.slice (some ⟨b,0,none⟩) 256 256,Value.slice none 0 0],u.oneCell'=true:=by
  intro u hu
  simp at hu
  rcases hu with rfl | rfl<;>rfl
theorem new_disk (n:Int)(w:World) :
    Calls Tryz.prog 55 #[.int .i64 n] w fun e w' => ∃p,e = .returned (.pointer (some ⟨p,0,none⟩))∧DskM (fun k=>w.heap.size≤k) w' p (zdisk (secsN n))∧Below w.heap.size w w':=by
  obtain⟨i0,hi,hzz⟩:=Option.map_eq_some_iff.1 info_sector
  simp only[Prod.mk.injEq] at hzz
  obtain⟨hz0,hz1,hz2⟩:=hzz
  obtain⟨m,hm⟩ : ∃m,imin (imax n 1) 200=m:=⟨_,rfl⟩
  have hm1:1≤m∧m≤200:=by rw[←hm,imin_eq,imax_eq];omega
  have HM:=Aside0.mk (show secsN n=m.toNat by unfold secsN;rw[hm])
  obtain⟨m1,m2⟩:=hm1
  have HI0:=Aside0.mk (And.intro hi (And.intro hz0 (And.intro hz1 hz2)))
  clear hi hz0 hz1 hz2
  go_enter Tryz.func55,Tryz.ntmps55
  go_wp2_with fail
  go_loopg [9] (m.toNat+1) (fun kq v9 w' => ∃(i:Int) (sl:Value) (rs:List (Value×Value)),v9 = .int .i64 i∧Aside0 (0≤i∧i≤m∧(kq:Int)=m+1 - i∧rs.length=i.toNat)∧Aside0 (NewM w.heap.size w' sl rs)∧Aside0 (Below w.heap.size w w'))
  case atStart=>
    refine⟨0,.slice none 0 0,[],rfl,⟨by omega,by omega,by omega,rfl⟩,⟨⟨?_,World.ownsRow_nil _ _ _ _,fun r h=>by simp at h,by simp⟩⟩,⟨by repeat (first | exact Below.refl _ _ | apply below_drew1 | apply below_alloc)⟩⟩
    show (w.heap.push _)[w.heap.size]? = _
    exact Array.getElem?_push_size
  case round=>
    obtain⟨i,sl,rs,rfl,HI,HN,HB⟩:=hrel
    have hi0:0≤i:=HI.out.1
    by_cases hlt:i<m
    · obtain⟨hi,hz0,hz1,hz2⟩:=HI0.out
      have hc0:wr.cell? ⟨w.heap.size,0,none⟩=some sl:=by simp[World.cell?,HN.out.box]
      have hf0:wr.frozen? ⟨w.heap.size,0,none⟩=false:=by simp[World.frozen?,HN.out.box]
      have hsz:=HN.out.size
      have hsz1:w.heap.size<wr.heap.size:=hsz
      have hmk:=make256
      have hn5:rs.length≤100000:=by have:=HI.out;omega
      go_wp2_with fail
      go_region_law (first
        | (refine step_append_lies _ (by rfl) _ _ 171 (by rfl) (w.heap.size+1) 175 i0 (.agg #[.slice none 0 0,.slice none 0 0]) 2 48 Tryz.underlying171 hi hz0 hz1 hz2 rfl (by decide) _ rs.length (secCells rs) (by rfl) (by exact ow_below HN.out.row (by repeat (first | exact Below.refl _ _ | apply below_drew1 | apply below_alloc))) ⟨wr.heap.size+1,0,none⟩ 1 1 [.slice (some ⟨wr.heap.size,0,none⟩) 256 256,.slice none 0 0] (by rfl) rfl (by exact news_sec _ _ (by simp) _ _ _) (by exact one_sec _) (by decide) (by exact len_ok hn5) (by exact len48 hn5) (by simp;omega) (wr.heap.size+2) (by simp) ?_;intro g2 cap2 w3 hown hgr hor hlt3;have hblk:w3.heap[w.heap.size]? = wr.heap[w.heap.size]? := grown_blk hgr (by exact (show Below wr.heap.size wr _ by repeat (first | exact Below.refl _ _ | apply below_drew1 | apply below_alloc)).block _ hsz1) (by simp;omega) (fun k hk=>by have:=(ow_block HN.out.row hk).1;omega);have hs1:w3.cell? ⟨w.heap.size,0,none⟩=some sl:=(World.cell?_of_block (w:=wr) (a:=⟨w.heap.size,0,none⟩) hblk).trans hc0;have hs2:w3.frozen? ⟨w.heap.size,0,none⟩=false:=(World.frozen?_of_block (w:=wr) (a:=⟨w.heap.size,0,none⟩) hblk).trans hf0))
      all_goals
        have HW:=Aside0.mk (show ∀b,b<wr.heap.size→some b≠sl.ownBlock→w3.heap[b]? = wr.heap[b]? from fun b hb hne=>(hgr.block b (by simp;omega) hne).trans ((show Below wr.heap.size wr _ by repeat (first | exact Below.refl _ _ | apply below_drew1 | apply below_alloc)).block _ hb))
        have HSZ:=Aside0.mk (show wr.heap.size+2≤w3.heap.size by have:=hgr.size;simp at this;omega)
        have HZ:=Aside0.mk (show w3.heap[wr.heap.size]? = some (.cells zb 5 (0,0)) from (hgr.block wr.heap.size (by simp;omega) (fun e=>by
          obtain⟨_,c,hc⟩:=ow_block HN.out.row e.symm
          have:=heap_lt hc
          omega)).trans (by
          show ((wr.heap.push _).push _)[wr.heap.size]? = _
          rw[Array.getElem?_push,if_neg (by simp),Array.getElem?_push_size]))
        have HO3:=Aside0.mk (show w3.ownsRow (w.heap.size+1) 175 2 (.slice (some ⟨g2,0,none⟩) (rs.length+1) cap2) (rs.length+1) (secCells (rs++[(.slice (some ⟨wr.heap.size,0,none⟩) 256 256,.slice none 0 0)])) from by rw[secCells_append];exact hown)
        have HB3:=Aside0.mk (show Below w.heap.size w w3 from (HB.out.trans (Below.mono (show Below wr.heap.size wr _ by repeat (first | exact Below.refl _ _ | apply below_drew1 | apply below_alloc)) (by omega))).grown (w:=_) hgr (by simp;omega) (fun k hk=>by have:=(ow_block HN.out.row hk).1;omega))
        have HS1:=Aside0.mk hs1
        clear hown hgr hor hlt3 hblk hi hz0 hz1 hz2 hmk hc0 hf0
        go_wp2_with fail
        go_roundg (gk - 1)
        case measure=>have:=HI.out;omega
        case rel=>
          refine⟨i+1,.slice (some ⟨g2,0,none⟩) (rs.length+1) cap2,rs++[(.slice (some ⟨wr.heap.size,0,none⟩) 256 256,.slice none 0 0)],rfl,⟨by omega,by omega,by have:=HI.out;omega,by rw[List.length_append];have:=HI.out;simp;omega⟩,⟨?_⟩,⟨HB3.out.setCell (Nat.le_refl _) _⟩⟩
          have hmv : ∀x b,BS wr x b→BS (w3.setCell ⟨w.heap.size,0,none⟩ (.slice (some ⟨g2,0,none⟩) (rs.length+1) cap2)) x b:=fun x b hx=>Rd.move hx (fun k hk=>by
            obtain⟨c,fz,hc⟩:=Rd.block hx hk
            rw[Below.heap_setCell _ _ _ _ (show k≠w.heap.size from fun e=>by subst e;rw[HN.out.box] at hc;injection hc with hc;injection hc with _ h2;exact absurd h2 (by decide))]
            exact HW.out k (heap_lt hc) (fun e=>by
              obtain⟨_,c2,hc2⟩:=ow_block HN.out.row e.symm
              rw[hc2] at hc;injection hc with hc;injection hc with _ h2;exact absurd h2 (by decide)))
          refine⟨?_,?_,?_,?_⟩
          · have hb0:w3.heap[w.heap.size]? = some (.cells #[sl,.bool false,.int .i64 (-1)] 173 (0,0)):=(HW.out _ hsz1 (fun e=>by have:=(ow_block HN.out.row e.symm).1;omega)).trans HN.out.box
            rw[heap_setCell_same _ _ _ _ _ _ hb0]
            simp
          · rw[List.length_append]
            exact ow_move HO3.out (fun k hk=>Below.heap_setCell _ _ _ _ (by have:=(ow_block HO3.out hk).1;show k≠w.heap.size;omega))
          · intro r hr
            rcases List.mem_append.1 hr with h | h
            · exact⟨hmv _ _ (HN.out.secs r h).1,(HN.out.secs r h).2⟩
            · obtain rfl:=List.mem_singleton.1 h
              exact⟨bs_zb (by rw[Below.heap_setCell _ _ _ _ (show wr.heap.size≠w.heap.size by omega)];exact HZ.out),rfl⟩
          · have:=HSZ.out
            simp[World.setCell]
            omega
    · have HI2:=Aside0.mk (show rs.length=m.toNat by have:=HI.out;omega)
      obtain⟨g,cap,hsl,hbg,hgl⟩:=HN.out.row.form (by have:=HI2.out;omega)
      subst hsl
      go_wp2_with fail
      go_ret
      refine⟨w.heap.size,rfl,⟨g,cap,rs,?_⟩,HB.out⟩
      have hlen:rs.length=(zdisk (secsN n)).l.length:=by rw[HM.out,HI2.out];exact (List.length_replicate ..).symm
      refine⟨?_,?_,hlen,Nat.le_refl _,by show w.heap.size≤g;omega,?_,?_,?_,?_⟩
      · have:=HN.out.box
        rw[hlen] at this
        exact this
      · have:=ow_base HN.out.row (Nat.zero_le _)
        rw[hlen] at this
        exact this
      · intro j r s hr hs
        obtain⟨h1,h2⟩:=HN.out.secs r (List.mem_of_getElem? hr)
        have hs':s=zsec:=(List.mem_replicate.1 (List.mem_of_getElem? hs)).2
        subst hs'
        rw[h2]
        exact⟨h1,⟨[],World.ownsRow_nil _ _ _ _,fun i b hb=>by cases hb⟩,fun k hk=>by cases hk⟩
      · intro j1 j2 r q k h1 h2 h3 h4
        rw[(HN.out.secs r (List.mem_of_getElem? h1)).2] at h3
        cases h3
      · intro s hs
        obtain⟨_,rfl⟩:=List.mem_replicate.1 hs
        exact zsec_ok
      · rw[←hlen];have:=HI2.out;omega
end Go.Proofs.YtaplpeoikebedaaGreatDoor.DiskN
namespace Go.Proofs.YtaplpeoikebedaaGreatDoor.DiskW
open Go.RowKit YtaplpeoikebedaaGreatDoorW.PrintWords YtaplpeoikebedaaGreatDoorW.PrintLast YtaplpeoikebedaaGreatDoorW.PrintMore
open See Mem Clone Go.Proofs.YtaplpeoikebedaaGreatDoor.Cell Page PageB PageR Disk DiskN
attribute [local go_sem] max2_imax min2_imin max_two min_two
def spendB (d:Dsk):Bool := !decide (d.fuse=0)
def spendD (d:Dsk):Dsk:=if d.fuse<0 then d else if d.fuse=0 then { d with off:=true } else { d with fuse:=d.fuse - 1 }
def OutK (K:List Nat)(M:Nat→Prop)(a:Nat→Addr):Prop := ∀i,i∈K→¬M (gl i)∧¬M (a i).block
abbrev Out (M:Nat→Prop) (a:Nat→Addr):Prop:=OutK kn M a
theorem OutK.gr {K:List Nat}{M:Nat→Prop}{a:Nat→Addr}{w w':World}(h:OutK K M a)(hs:SentsK K w a):OutK K (Gr M w w') a:=fun i hi=>by
  obtain⟨h1,h2⟩:=h i hi
  have l1:gl i<w.heap.size:=World.block_lt_of_cell? _ _ (hs.cell i hi)
  obtain⟨c,t,hr⟩:=hs.row i hi
  have l2:=heap_lt hr
  refine⟨fun h => ?_,fun h => ?_⟩
  · rcases h with h | ⟨h,_⟩
    · exact h1 h
    · omega
  · rcases h with h | ⟨h,_⟩
    · exact h2 h
    · omega
theorem sents_frm {K:List Nat}{T:List Nat}{M:Nat→Prop}{w w1:World}{a:Nat→Addr}(h:SentsK K w a)(hf:Frm T M w w1)(hO:OutK K M a):SentsK K w1 a:=by
  refine⟨fun i hi => ?_,fun i hi => ?_,h.ne⟩
  · exact (World.cell?_of_block (a:=⟨gl i,0,none⟩) (hf.block (gl i) (World.block_lt_of_cell? _ _ (h.cell i hi)) (fun hm=>absurd hm (hO i hi).1))).trans (h.cell i hi)
  · obtain⟨c,t,hr⟩:=h.row i hi
    exact⟨c,t,(hf.block _ (row_lt hr) (fun hm=>absurd hm (hO i hi).2)).trans hr⟩
theorem dsk_put {M:Nat→Prop}{w:World}{p g cap:Nat}{rs:List (Value×Value)}{d:Dsk}(h:DskAt M w p g cap rs d)(i:Nat)(v:Value)(d':Dsk)(hl:d'.l=d.l)(hc:(dskCells g cap d).setIfInBounds i v=dskCells g cap d') :
    DskAt M (w.setCell ⟨p,i,none⟩ v) p g cap rs d':=by
  have hne : ∀(k:Nat) (c:Array Value) (e:Nat) (fz:Nat×Nat),w.heap[k]? = some (.cells c e fz)→e≠173→(w.setCell ⟨p,i,none⟩ v).heap[k]? = w.heap[k]? := fun k c e fz hk he=>
    Below.heap_setCell _ _ _ _ (fun e2=>by
      subst e2
      rw[h.box] at hk
      injection hk with hk;injection hk with _ hk
      exact he hk.symm)
  have hbs : ∀x b,BS w x b→BS (w.setCell ⟨p,i,none⟩ v) x b:=fun x b hx=>Rd.move hx fun k hk=>by
    obtain⟨c,fz,hc⟩:=Rd.block hx hk
    exact hne k _ _ _ hc (by decide)
  refine⟨?_,?_,by rw[hl];exact h.len,h.mp,h.mg,fun j r s hj hs => ?_,h.apart,by rw[hl];exact h.ok,by rw[hl];exact h.few⟩
  · rw[heap_setCell_same _ _ _ _ _ _ h.box,hc]
  · rw[hl]
    exact ow_move h.row fun k hk=>by obtain⟨_,c,hc⟩:=ow_block h.row hk;exact hne k _ _ _ hc (by decide)
  · rw[hl] at hs
    obtain⟨h1,⟨vs,h2,h3⟩,h4⟩:=h.secs j r s hj hs
    refine⟨hbs _ _ h1,⟨vs,ow_move h2 fun k hk=>by obtain⟨_,c,hc⟩:=ow_block h2 hk;exact hne k _ _ _ hc (by decide),fun i b hb => ?_⟩,h4⟩
    obtain⟨x,hx,hx2⟩:=h3 i b hb
    exact⟨x,hx,hbs _ _ hx2⟩
theorem dsk_frozen {M:Nat→Prop}{w:World}{p g cap:Nat}{rs:List (Value×Value)}{d:Dsk}(h:DskAt M w p g cap rs d)(i:Nat):w.frozen? ⟨p,i,none⟩=false:=by simp[World.frozen?,h.box]
theorem frm_box {T:List Nat}{M:Nat→Prop}{w:World}{p:Nat}{c:Array Value}{e:Nat}{f:Nat×Nat}(h:w.heap[p]? = some (.cells c e f))(hM:M p)(hT:e∈T)(i:Nat)(v:Value):Frm T M w (w.setCell ⟨p,i,none⟩ v):=
  (Frm.refl T M w).set (fun _=>⟨hM,by rw[tag_of h];exact hT⟩) v
theorem spend_disk (M:Nat→Prop)(p g cap:Nat)(rs:List (Value×Value))(d:Dsk)(w:World)(hd:DskAt M w p g cap rs d)(hf : -1≤d.fuse)(hf2:d.fuse≤9223372036854775807) :
    Calls Tryz.prog 192 #[.pointer (some ⟨p,0,none⟩)] w fun e w'=>e = .returned (.bool (spendB d))∧DskAt M w' p g cap rs (spendD d)∧Frm dTurn M w w':=by
  obtain⟨hc0,hc1,hc2⟩:=hd.cells
  have HD:=Aside0.mk hd
  have hz1:w.frozen? ⟨p,1,none⟩=false:=dsk_frozen hd 1
  have hz2:w.frozen? ⟨p,2,none⟩=false:=dsk_frozen hd 2
  have hlt:p<w.heap.size:=heap_lt hd.box
  obtain⟨f,hff⟩ : ∃f,d.fuse=f:=⟨_,rfl⟩
  have HF:=Aside0.mk hff
  rw[hff] at hf hf2 hc2
  clear hd hff hc0
  rcases (show f<0∨f=0∨0<f by omega) with h | h | h
  · have h2:(f == 0)=false:=by simp;omega
    have HP:=Aside0.mk (show spendB d=true∧spendD d=d by unfold spendB spendD;rw[HF.out,if_pos h];exact⟨by simp;omega,rfl⟩)
    go_enter Tryz.func192,Tryz.ntmps192
    go_wp2
    go_ret
    exact⟨by simp[HP.out.1],by rw[HP.out.2];exact HD.out,Frm.refl _ _ _⟩
  · subst h
    have HP:=Aside0.mk (show spendB d=false∧spendD d={ d with off:=true } by unfold spendB spendD;rw[HF.out];simp)
    go_enter Tryz.func192,Tryz.ntmps192
    go_wp2
    go_ret
    exact⟨by simp[HP.out.1],by rw[HP.out.2];exact dsk_put HD.out 1 _ _ rfl rfl,frm_box HD.out.box HD.out.mp (by decide) _ _⟩
  · have h2:(f == 0)=false:=by simp;omega
    have HP:=Aside0.mk (show spendB d=true∧spendD d={ d with fuse:=f - 1 } by unfold spendB spendD;rw[HF.out,if_neg (by omega),if_neg (by omega)];exact⟨by simp;omega,rfl⟩)
    go_enter Tryz.func192,Tryz.ntmps192
    go_wp2
    go_ret
    exact⟨by simp[HP.out.1],by rw[HP.out.2];exact dsk_put HD.out 2 _ _ rfl rfl,frm_box HD.out.box HD.out.mp (by decide) _ _⟩
theorem secCells_set (rs:List (Value×Value))(i:Nat)(r:Value×Value)(v:Value)(h:rs[i]? = some r):(secCells rs).set (i*2+1) v=secCells (rs.set i (r.1,v)):=by
  induction rs generalizing i with
  | nil=>simp at h
  | cons s rs ih=>
    have e:secCells (s :: rs)=s.1 :: s.2 :: secCells rs:=by simp[secCells,List.flatMap_cons]
    cases i with
    | zero=>
      simp at h;subst h
      simp[secCells,List.flatMap_cons]
    | succ i=>
      rw[e,show (i+1)*2+1=i*2+1+1+1 from by omega,List.set_cons_succ,List.set_cons_succ,ih i (by simpa using h),List.set_cons_succ]
      simp[secCells,List.flatMap_cons]
theorem dsk_loosen {M:Nat→Prop}{w w3:World}{p g cap:Nat}{rs:List (Value×Value)}{d:Dsk}(h:DskAt M w p g cap rs d){i:Nat}{r:Value×Value}{s:Sec}{b:List Int}{nv:Value}(hr:rs[i]? = some r)(hs:d.l[i]? = some s)
    (hkeep : ∀k,k<w.heap.size→some k≠r.2.ownBlock→w3.heap[k]? = w.heap[k]?) (hsz:w.heap.size≤w3.heap.size)
    (hown : ∃vs,w3.ownsRow 0 93 1 nv (s.loose.length+1) vs∧∀(j:Nat) (b':List Int),(s.loose++[b])[j]? = some b'→∃x,vs[j]? = some x∧BS w3 x b')
    (hat:r.2.ownBlock=nv.ownBlock∨∀k,nv.ownBlock=some k→w.heap.size≤k) (hb:SecB b) :
    DskAt (Gr M w w3) (w3.setCell ⟨g,i*2+1,none⟩ nv) p g cap (rs.set i (r.1,nv)) { d with l:=d.l.modify i fun s=>⟨s.fast,s.loose++[b]⟩ }:=by
  have hgr : ∃c,w.heap[g]? = some (.cells c 175 (0,0)):=(ow_block h.row rfl).2
  obtain⟨cg,hcg⟩:=hgr
  have hold : ∀k,r.2.ownBlock=some k→∃c,w.heap[k]? = some (.cells c 93 (0,0)):=fun k hk=>by
    obtain⟨vs,h2,_⟩:=(h.secs i r s hr hs).loose
    exact (ow_block h2 hk).2
  have hne : ∀(k:Nat) (c:Array Value) (e:Nat) (fz:Nat×Nat),w.heap[k]? = some (.cells c e fz)→e≠93→w3.heap[k]? = w.heap[k]? := fun k c e fz hk he=>
    hkeep k (heap_lt hk) (fun e2=>by
      obtain⟨c2,h2⟩:=hold k e2.symm
      rw[h2] at hk
      injection hk with hk;injection hk with _ hk
      exact he hk.symm)
  have hg3:w3.heap[g]? = some (.cells cg 175 (0,0)):=(hne g _ _ _ hcg (by decide)).trans hcg
  have hset : ∀(k:Nat) (c:Array Value) (e:Nat) (fz:Nat×Nat),w3.heap[k]? = some (.cells c e fz)→e≠175→(w3.setCell ⟨g,i*2+1,none⟩ nv).heap[k]? = w3.heap[k]? := fun k c e fz hk he=>
    Below.heap_setCell _ _ _ _ (fun e2=>by
      subst e2
      rw[hg3] at hk
      injection hk with hk;injection hk with _ hk
      exact he hk.symm)
  have hbs3 : ∀x b,BS w3 x b→BS (w3.setCell ⟨g,i*2+1,none⟩ nv) x b:=fun x b hx=>Rd.move hx fun k hk=>by
    obtain⟨c,fz,hc⟩:=Rd.block hx hk
    exact hset k _ _ _ hc (by decide)
  have hbs : ∀x b,BS w x b→BS w3 x b:=fun x b hx=>Rd.move hx fun k hk=>by
    obtain⟨c,fz,hc⟩:=Rd.block hx hk
    exact hne k _ _ _ hc (by decide)
  have hlr:i<rs.length:=(List.getElem?_eq_some_iff.1 hr).1
  have hll:i<d.l.length:=(List.getElem?_eq_some_iff.1 hs).1
  refine⟨?_,?_,by simp[h.len],.inl h.mp,.inl h.mg,fun j q s' hj hs' => ?_,fun j1 j2 q1 q2 k h1 h2 h3 h4 => ?_,fun s' hs' => ?_,by simpa using h.few⟩
  · have hp3:=(hne p _ _ _ h.box (by decide)).trans h.box
    rw[(hset p _ _ _ hp3 (by decide)).trans hp3]
    simp[dskCells]
  · have ho:w3.ownsRow 0 175 2 (.slice (some ⟨g,0,none⟩) d.l.length cap) d.l.length (secCells rs):=ow_move h.row fun k hk=>by obtain⟨_,c,hc⟩:=ow_block h.row hk;exact hne k _ _ _ hc (by decide)
    have:=(ho.stored (i*2+1) nv).1
    rw[secCells_set rs i r nv hr] at this
    simpa using this
  · by_cases hji:j=i
    · subst hji
      rw[List.getElem?_set,if_pos rfl,if_pos hlr] at hj
      injection hj with hj
      subst hj
      simp only[List.getElem?_modify,hs] at hs'
      simp at hs'
      subst hs'
      obtain⟨vs,o1,o2⟩:=hown
      refine⟨hbs3 _ _ (hbs _ _ (h.secs j r s hr hs).fast),⟨vs,?_,fun j2 b' hb' => ?_⟩,fun k hk => ?_⟩
      · simp only[List.length_append,List.length_cons,List.length_nil,Nat.zero_add]
        exact ow_move o1 fun k hk=>by obtain⟨_,c,hc⟩:=ow_block o1 hk;exact hset k _ _ _ hc (by decide)
      · obtain⟨x,hx,hx2⟩:=o2 j2 b' hb'
        exact⟨x,hx,hbs3 _ _ hx2⟩
      · have hk:nv.ownBlock=some k:=hk
        rcases hat with hat | hat
        · exact .inl ((h.secs j r s hr hs).low k (hat.trans hk))
        · obtain⟨_,c,hc⟩:=ow_block o1 hk
          exact .inr ⟨hat k hk,heap_lt hc⟩
    · rw[List.getElem?_set,if_neg (fun e=>hji e.symm)] at hj
      have hs':d.l[j]? = some s':=by
        rw[List.getElem?_modify] at hs'
        simpa [show i≠j from fun e=>hji e.symm] using hs'
      obtain⟨h1,⟨vs,h2,h3⟩,h4⟩:=h.secs j q s' hj hs'
      have hmv : ∀k,q.2.ownBlock=some k→w3.heap[k]? = w.heap[k]? := fun k hk=>by
        obtain⟨_,c,hc⟩:=ow_block h2 hk
        exact hkeep k (heap_lt hc) (fun e=>hji (h.apart j i q r k hj hr hk e.symm))
      have h2':=ow_move h2 hmv
      refine⟨hbs3 _ _ (hbs _ _ h1),⟨vs,ow_move h2' fun k hk=>by obtain⟨_,c,hc⟩:=ow_block h2' hk;exact hset k _ _ _ hc (by decide),fun j2 b' hb' => ?_⟩,fun k hk=>.inl (h4 k hk)⟩
      obtain⟨x,hx,hx2⟩:=h3 j2 b' hb'
      exact⟨x,hx,hbs3 _ _ (hbs _ _ hx2)⟩
  · have key : ∀j q,j≠i→rs[j]? = some q→q.2.ownBlock=some k→nv.ownBlock=some k→False:=fun j q hji hj hq hn=>by
      rcases hat with hat | hat
      · exact hji (h.apart j i q r k hj hr hq (hat.trans hn))
      · have hk:=hat k hn
        have hs2 : ∃s',d.l[j]? = some s':=⟨_,List.getElem?_eq_getElem (by have:=(List.getElem?_eq_some_iff.1 hj).1;have:=h.len;omega)⟩
        obtain⟨s',hs2⟩:=hs2
        obtain⟨vs,h2,_⟩:=(h.secs j q s' hj hs2).loose
        obtain⟨_,c,hc⟩:=ow_block h2 hq
        have:=heap_lt hc
        omega
    rw[List.getElem?_set] at h1 h2
    by_cases e1:i=j1
    · by_cases e2:i=j2
      · omega
      · rw[if_pos e1,if_pos hlr] at h1
        injection h1 with h1;subst h1
        rw[if_neg e2] at h2
        exact (key j2 q2 (fun e=>e2 e.symm) h2 h4 h3).elim
    · rw[if_neg e1] at h1
      by_cases e2:i=j2
      · rw[if_pos e2,if_pos hlr] at h2
        injection h2 with h2;subst h2
        exact (key j1 q1 (fun e=>e1 e.symm) h1 h3 h4).elim
      · rw[if_neg e2] at h2
        exact h.apart j1 j2 q1 q2 k h1 h2 h3 h4
  · obtain⟨j,hj,hjs⟩:=List.getElem_of_mem hs'
    have hjs2:(d.l.modify i fun s=>⟨s.fast,s.loose++[b]⟩)[j]? = some s':=by rw[List.getElem?_eq_getElem hj,hjs]
    rw[List.getElem?_modify] at hjs2
    cases hjd:d.l[j]? with
    | none=>rw[hjd] at hjs2;simp at hjs2
    | some s0=>
      rw[hjd] at hjs2
      have ok0:=h.ok s0 (List.mem_of_getElem? hjd)
      by_cases e:i=j
      · simp[e] at hjs2
        subst hjs2
        exact⟨ok0.1,fun b' hb'=>by
          rcases List.mem_append.1 hb' with h' | h'
          · exact ok0.2 b' h'
          · rw[List.mem_singleton.1 h'];exact hb⟩
      · simp[e] at hjs2
        subst hjs2
        exact ok0
def writeE (d:Dsk)(i:Int)(b:List Int):Option Nat:=if d.off then some 0 else if inD d i then (if b.length=256 then (if spendB d then none else some 0) else some 2) else some 1
def writeD (d:Dsk)(i:Int)(b:List Int):Dsk:=
  if d.off then d else if inD d i then (if b.length=256 then spendD { d with l:=d.l.modify i.toNat fun s=>⟨s.fast,s.loose++[b]⟩ } else d) else d
def WritePost (a:Nat→Addr)(M:Nat→Prop)(p:Nat)(d:Dsk)(i:Int)(b:List Int)(w:World)(e:Ending)(w':World):Prop:=
  e = .returned (errv a (writeE d i b))∧DskM (Gr M w w') w' p (writeD d i b)∧Frm dTurn M w w'
theorem info_bytes2:(Tryz.prog.info? 93).map (fun i=>(i.zero,i.size,i.bytes))=some (some (.slice none 0 0),1,24):=by kernel_rfl
theorem news1_at (W:World)(b:Nat)(hb:W.heap.size=b)(u:Value)(e:Nat) : ∀j x,[u][j]? = some x→(W.alloc (.cells #[u] e)).cell? ((⟨b,0,none⟩:Addr).add j)=some x:=by
  subst hb
  intro j x hj
  rw[add_at]
  match j,hj with
  | 0,hj=>simp at hj;subst hj;simp
theorem one_sl (A:Option Addr)(n c:Nat) : ∀u∈[Value.slice A n c],u.oneCell'=true:=by
  intro u hu;simp at hu;subst hu;rfl
theorem len24 {n:Nat}(h:n≤100000):(n+1)*24≤140737488355328:=by omega
def FuseOk (d:Dsk):Prop := -1≤d.fuse∧d.fuse≤9223372036854775807
theorem write_disk (a:Nat→Addr)(M:Nat→Prop)(p:Nat)(d:Dsk)(i:Int)(v:Value)(b:List Int)(w:World)(hs:Sents w a)(hO:Out M a)(hd:DskM M w p d)(hb:BS w v b)(hB:IsB b)(hf:FuseOk d)(hfew : ∀s∈d.l,s.loose.length≤100000) :
    Calls Tryz.prog 134 #[.pointer (some ⟨p,0,none⟩),.int .i64 i,v] w (WritePost a M p d i b w):=by
  have hDM:=Aside0.mk hd
  obtain⟨g,cap,rs,hd⟩:=hd
  obtain⟨hc0,hc1,hc2⟩:=hd.cells
  have HD:=Aside0.mk hd
  have HS:=Aside0.mk hs
  have HBS:=Aside0.mk hb
  have HIB:=Aside0.mk hB
  have HFU:=Aside0.mk hf
  have HOUT:=Aside0.mk hO
  clear hO
  have HFEW:=Aside0.mk (show ∀s∈d.l,∀m,s.loose.length=m→m≤100000 from fun s hs m hm=>by rw[←hm];exact hfew s hs)
  clear hfew
  have hg0:w.cell? ⟨8,0,none⟩=some (.iface 333 (.pointer (some (a 0)))):=hs.cell 0 (by decide)
  have hg1:w.cell? ⟨6,0,none⟩=some (.iface 333 (.pointer (some (a 1)))):=hs.cell 1 (by decide)
  have hg2:w.cell? ⟨9,0,none⟩=some (.iface 333 (.pointer (some (a 2)))):=hs.cell 2 (by decide)
  obtain⟨off,hoff⟩ : ∃o,d.off=o:=⟨_,rfl⟩
  have HOFF:=Aside0.mk hoff
  obtain⟨A,c,hv,_⟩:=Rd.form hb
  obtain⟨n,hn⟩ : ∃n,b.length=n:=⟨_,rfl⟩
  have HN:=Aside0.mk hn
  have hn6:n≤1000000:=by rw[←hn];exact hb.2.1
  rw[hoff] at hc1
  rw[hn] at hv
  have hat:Aside0 (∃q:Option Addr,(inD d i=true→q=some ⟨g,i.toNat*2,none⟩)∧(inD d i=false→q=none)∧Calls Tryz.prog 102 #[.pointer (some ⟨p,0,none⟩),.int .i64 i] w fun e w'=>e = .returned (.pointer q)∧w=w'):=by
    refine⟨?_⟩
    cases hin:inD d i with
    | true=>exact⟨_,fun _=>rfl,fun h=>(by cases h),at_in p g _ cap i w hc0 (inD_true hin).1 (inD_true hin).2⟩
    | false=>exact⟨none,fun h=>(by cases h),fun _=>rfl,at_out p g _ cap i w hc0 (inD_false hin)⟩
  have hpost : ∀o,writeE d i b=o→writeD d i b=d→WritePost a M p d i b w (.returned (errv a o)) w:=fun o h1 h2=>⟨by rw[h1],by rw[h2];exact hDM.out.mono fun k hk=>.inl hk,Frm.refl _ _ _⟩
  have HPOST:=Aside0.mk hpost
  clear hd hs hb hB hf hoff hc2 hn hc0 hpost
  obtain⟨q,hq1,hq2,hcall⟩:=hat.out
  have HQ1:=Aside0.mk hq1
  have HQ2:=Aside0.mk hq2
  have HCALL:=Aside0.mk hcall
  clear hq1 hq2 hcall hat
  subst hv
  cases off with
  | true=>
    have HR:=Aside0.mk (show writeE d i b=some 0∧writeD d i b=d by unfold writeE writeD;simp[HOFF.out])
    go_enter Tryz.func134,Tryz.ntmps134
    go_wp2_with fail
    refine HCALL.out.mono ?_
    rintro e w' ⟨rfl,rfl⟩
    go_wp2_with fail
    go_ret
    exact HPOST.out (some 0) HR.out.1 HR.out.2
  | false=>
    cases hin:inD d i with
    | false=>
      have HR:=Aside0.mk (show writeE d i b=some 1∧writeD d i b=d by unfold writeE writeD;simp[HOFF.out,hin])
      have hq:=HQ2.out hin
      clear hin
      subst hq
      go_enter Tryz.func134,Tryz.ntmps134
      go_wp2_with fail
      refine HCALL.out.mono ?_
      rintro e w' ⟨rfl,rfl⟩
      go_wp2_with fail
      go_ret
      exact HPOST.out (some 1) HR.out.1 HR.out.2
    | true=>
      have hq:=HQ1.out hin
      subst hq
      by_cases hn2:n=256
      · subst hn2
        have HIN:=Aside0.mk hin
        obtain⟨i0,i1⟩:=inD_true hin
        obtain⟨s,hs⟩ : ∃s,d.l[i.toNat]? = some s:=⟨_,List.getElem?_eq_getElem (by omega)⟩
        obtain⟨r,hr⟩ : ∃r,rs[i.toNat]? = some r:=⟨_,List.getElem?_eq_getElem (by have:=HD.out.len;omega)⟩
        have hsm:=HD.out.secs _ r s hr hs
        obtain⟨hd0,hd1⟩:=HD.out.sec hr
        have HRS0:=Aside0.mk (And.intro hr hs)
        obtain⟨fv,lv⟩:=r
        obtain⟨hfast,⟨vs,hown,hls⟩,hlow⟩:=hsm
        simp only at hd0 hd1 hfast hown hls hlow
        obtain⟨m,hm⟩ : ∃m,s.loose.length=m:=⟨_,rfl⟩
        have HMM:=Aside0.mk hm
        have HO:=Aside0.mk hown
        have HLS:=Aside0.mk hls
        obtain⟨A',c',rfl,hA'⟩:=ow_slice hown
        have HRS:=Aside0.mk (And.intro HRS0.out.1 (And.intro HRS0.out.2 hlow))
        clear HRS0
        have hm5:m≤100000:=HFEW.out s (List.mem_of_getElem? hs) m hm
        rw[hm] at hd1 HO hA' HRS
        obtain⟨i00,hii,hzz⟩:=Option.map_eq_some_iff.1 info_bytes2
        simp only[Prod.mk.injEq] at hzz
        obtain⟨hz0,hz1,hz2⟩:=hzz
        have hgl:g<w.heap.size:=by obtain⟨_,cg,hcg⟩:=ow_block HD.out.row rfl;exact heap_lt hcg
        have hfz:w.frozen? ⟨g,i.toNat*2+1,none⟩=false:=HD.out.row.frozenAt _
        have hgne:some g≠(Value.slice A' m c').ownBlock:=fun e=>by
          obtain⟨_,cg,hcg⟩:=ow_block HD.out.row rfl
          obtain⟨_,cl,hcl⟩:=ow_block HO.out e.symm
          rw[hcg] at hcl;injection hcl with hcl;injection hcl with _ hcl
          exact absurd hcl (by decide)
        have HGNE:=Aside0.mk hgne
        clear hin hs hr hfast hown hls hlow hm hA' i1 hgne
        go_enter Tryz.func134,Tryz.ntmps134
        go_wp2_with fail
        refine HCALL.out.mono ?_
        rintro e w' ⟨rfl,rfl⟩
        go_wp2_with fail
        go_region_law (first
          | (have hv1k:=hv1k;refine step_append_lies _ (by rfl) _ _ 88 (by rfl) 0 93 i00 (.slice none 0 0) 1 24 Tryz.underlying88 hii hz0 hz1 hz2 rfl (by decide) _ m vs (by rfl) (by exact ow_below HO.out (by repeat (first | exact hbb | apply below_drew1 | apply below_alloc))) ⟨w1.heap.size,0,none⟩ 1 1 [.slice A1 256 c1] (by rfl) rfl (by exact news1_at _ _ (by simp) _ _) (by exact one_sl _ _ _) (by decide) (by exact len_ok hm5) (by exact len24 hm5) (by exact Nat.zero_le _) (w1.heap.size+1) (by simp) ?_;intro g2 cap2 w3 hown hgr hor hlt3;have hkg:w3.heap[g]? = w.heap[g]? := grown_blk hgr (by exact (show Below w.heap.size w _ by repeat (first | exact hbb | apply below_drew1 | apply below_alloc)).block _ hgl) (by have:=hbb.size;simp;omega) (fun k hk e=>HGNE.out (by rw[e] at hk;exact hk.symm));have hs1:w3.cell? ⟨g,i.toNat*2+1,none⟩=some (.slice A' m c'):=(World.cell?_of_block (w:=w) (a:=⟨g,i.toNat*2+1,none⟩) hkg).trans hd1;have hs2:w3.frozen? ⟨g,i.toNat*2+1,none⟩=false:=(World.frozen?_of_block (w:=w) (a:=⟨g,i.toNat*2+1,none⟩) hkg).trans hfz)
          | (go_simp;go_at_call 95;refine (clone_bytes (.slice A 256 c) 256 (b.map (.int .u8)) _ (by have h:=HBS.out;unfold BS at h;rw[HN.out] at h;exact h) (fun u hu=>by obtain⟨z,_,rfl⟩:=List.mem_map.1 hu;rfl)).mono ?_;rintro e w1 ⟨v1,rfl,ho,hb⟩;obtain⟨A1,c1,rfl,hv1k⟩:=ow_slice ho;have hbb:Below w.heap.size w w1:=⟨hb.os,hb.tape,hb.output,hb.size,hb.block⟩;have hdk:w1.cell? ⟨g,i.toNat*2+1,none⟩=some (.slice A' m c'):=pw_cell_below hbb hd1;have hgl1:g<w1.heap.size:=Nat.lt_of_lt_of_le hgl hbb.size))
        all_goals
          have HOWN:=Aside0.mk hown
          have HGR:=Aside0.mk hgr
          have HOR:=Aside0.mk hor
          have HB:=Aside0.mk hbb
          have HO1:=Aside0.mk ho
          have HSZ:=Aside0.mk (show w1.heap.size+1≤w3.heap.size by have:=hgr.size;simp at this;omega)
          have HK:=Aside0.mk (show ∀k,k<w1.heap.size→some k≠(Value.slice A' m c').ownBlock→w3.heap[k]? = w1.heap[k]? from fun k hk hne=>(hgr.block k (by simp;omega) hne).trans ((show Below w1.heap.size w1 _ by repeat (first | exact Below.refl _ _ | apply below_drew1 | apply below_alloc)).block k hk))
          have HF3:=Aside0.mk (show Frm dTurn M w w3 from (Frm.of_below (show Below w.heap.size w _ by repeat (first | exact hbb | apply below_drew1 | apply below_alloc))).grown hgr (fun k hk hlt=>⟨HRS.out.2.2 k hk,by obtain⟨_,cl,hcl⟩:=ow_block HO.out hk;rw[tag_of hcl];decide⟩))
          clear hown hgr hor hbb ho hb hii hz0 hz1 hz2
          have HKW:=Aside0.mk (show ∀k,k<w.heap.size→some k≠(Value.slice A' m c').ownBlock→w3.heap[k]? = w.heap[k]? from fun k hk hne=>(HK.out k (Nat.lt_of_lt_of_le hk HB.out.size) hne).trans (HB.out.block k hk))
          have HD4:=Aside0.mk (dsk_loosen HD.out HRS.out.1 HRS.out.2.1 (b:=b) (nv:=.slice (some ⟨g2,0,none⟩) (m+1) cap2) HKW.out (by have:=HSZ.out;have:=HB.out.size;omega)
            ⟨_,by rw[HMM.out];exact HOWN.out,fun j b' hj=>by
              have hvl:vs.length=m:=by have:=HO.out.1;omega
              have hnk : ∀(k:Nat) (c:Array Value) (fz:Nat×Nat),w1.heap[k]? = some (.cells c 5 fz)→some k≠(Value.slice A' m c').ownBlock:=fun k c fz hk e=>by
                obtain⟨_,cl,hcl⟩:=ow_block HO.out e.symm
                rw[HB.out.block k (heap_lt hcl),hcl] at hk
                injection hk with hk;injection hk with _ hk
                exact absurd hk (by decide)
              rcases (show j<m∨m≤j by omega) with hjm | hjm
              · rw[List.getElem?_append_left (by rw[HMM.out];exact hjm)] at hj
                obtain⟨x,hx,hxb⟩:=HLS.out j b' hj
                refine⟨x,by rw[List.getElem?_append_left (by omega)];exact hx,Rd.move (BS.below hxb HB.out) fun k hk => ?_⟩
                obtain⟨cc,fz,hcc⟩:=Rd.block (BS.below hxb HB.out) hk
                exact HK.out k (heap_lt hcc) (hnk k _ _ hcc)
              · rw[List.getElem?_append_right (by rw[HMM.out];exact hjm),HMM.out] at hj
                have hjj:j - m=0:=by have:=(List.getElem?_eq_some_iff.1 hj).1;simp at this;omega
                rw[hjj] at hj
                simp at hj
                subst hj
                refine⟨.slice A1 256 c1,by rw[List.getElem?_append_right (by omega),hvl,hjj];rfl,?_⟩
                unfold BS
                rw[HN.out]
                refine Rd.move (Rd.of_own HO1.out (by omega)) fun k hk => ?_
                obtain⟨_,cc,hcc⟩:=ow_block HO1.out hk
                exact HK.out k (heap_lt hcc) (hnk k _ _ hcc)⟩
            (by
              rcases HOR.out with h | h
              · exact .inl h
              · refine .inr fun k hk => ?_
                have:g2=k:=by simpa [Value.ownBlock] using hk
                have:=HB.out.size
                omega)
            ⟨HN.out,HIB.out⟩)
          obtain⟨d4,hd4⟩ : ∃d4,d4=({ d with l:=d.l.modify i.toNat fun s=>⟨s.fast,s.loose++[b]⟩ }:Dsk):=⟨_,rfl⟩
          have HR:=Aside0.mk (show writeD d i b=spendD d4∧writeE d i b=(if spendB d4 then none else some 0)∧FuseOk d4 by
            rw[hd4];unfold writeE writeD;simp only[HOFF.out,HIN.out,HN.out];exact⟨by simp,by simp[spendB],HFU.out⟩)
          rw[←hd4] at HD4
          clear hd4
          have HG3:=Aside0.mk (show Frm dTurn M w (w3.setCell ⟨g,i.toNat*2+1,none⟩ (.slice (some ⟨g2,0,none⟩) (m+1) cap2)) from HF3.out.set (fun _=>⟨HD.out.mg,by obtain⟨_,cg,hcg⟩:=ow_block HD.out.row rfl;rw[tag_of hcg];decide⟩) _)
          go_wp2_with fail
          refine (spend_disk (Gr M w w3) p g cap _ d4 _ HD4.out HR.out.2.2.1 HR.out.2.2.2).mono ?_
          rintro e w5 ⟨rfl,hd5,hf5⟩
          have HD5:=Aside0.mk hd5
          have HF5:=Aside0.mk (show Frm dTurn M w w5 from HG3.out.transG (hf5.wide (fun _ h=>h) (fun k _ hk=>by
            rcases hk with hk | ⟨h1,h2⟩
            · exact .inl hk
            · exact .inr ⟨h1,by simpa [World.setCell] using h2⟩)))
          have hg05:w5.cell? ⟨8,0,none⟩=some (.iface 333 (.pointer (some (a 0)))):=(sents_frm HS.out HF5.out HOUT.out).cell 0 (by decide)
          have HGR5:=Aside0.mk (show DskM (Gr M w w5) w5 p (writeD d i b) from⟨g,cap,_,by
            rw[HR.out.1]
            exact HD5.out.mono fun k hk=>by
              rcases hk with hk | ⟨h1,h2⟩
              · exact .inl hk
              · exact .inr ⟨h1,by have:=hf5.size;simp[World.setCell] at this;omega⟩⟩)
          clear hd5 hf5
          cases hsp:spendB d4 with
          | true=>
            have HE:=Aside0.mk (show writeE d i b=none by rw[HR.out.2.1,hsp];rfl)
            clear hsp
            go_wp2_with fail
            go_ret
            exact⟨by rw[HE.out];rfl,HGR5.out,HF5.out⟩
          | false=>
            have HE:=Aside0.mk (show writeE d i b=some 0 by rw[HR.out.2.1,hsp];rfl)
            clear hsp
            go_wp2_with fail
            go_ret
            exact⟨by rw[HE.out];rfl,HGR5.out,HF5.out⟩
      · have HR:=Aside0.mk (show writeE d i b=some 2∧writeD d i b=d by unfold writeE writeD;simp[HOFF.out,hin,HN.out,hn2])
        have hn3:((n:Int) != 256)=true:=by simp;omega
        clear hin
        go_enter Tryz.func134,Tryz.ntmps134
        go_wp2_with fail
        refine HCALL.out.mono ?_
        rintro e w' ⟨rfl,rfl⟩
        go_wp2_with fail
        go_ret
        exact HPOST.out (some 2) HR.out.1 HR.out.2
end Go.Proofs.YtaplpeoikebedaaGreatDoor.DiskW
