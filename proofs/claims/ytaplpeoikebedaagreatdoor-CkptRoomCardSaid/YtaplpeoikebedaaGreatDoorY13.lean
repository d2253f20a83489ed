/- Joined texts: WalF, GoodD. No condition but what each says. -/
import Derived.Test.YtaplpeoikebedaaGreatDoorY11
import Derived.Test.YtaplpeoikebedaaGreatDoorY12
import Derived.Test.YtaplpeoikebedaaGreatDoorY7
set_option maxHeartbeats 8000000
set_option maxRecDepth 100000
set_option linter.unusedVariables false
set_option linter.unusedSimpArgs false
namespace Go.Proofs.YtaplpeoikebedaaGreatDoor.WalF
open Go.RowKit YtaplpeoikebedaaGreatDoorW.PrintWords YtaplpeoikebedaaGreatDoorW.PrintLast YtaplpeoikebedaaGreatDoorW.PrintMore
open See Mem Clone Go.Proofs.YtaplpeoikebedaaGreatDoor.Cell Page PageB PageR Disk DiskW DiskS RecD Rec RecC RecB Fill BlockB Pool3 Wal Del
attribute [local go_sem] max2_imax min2_imin max_two min_two
def LooseLe (d:Dsk)(m:Nat):Prop := ∀s∈d.l,s.loose.length≤m
theorem LooseLe.mono {d:Dsk}{m m':Nat}(h:LooseLe d m)(hm:m≤m'):LooseLe d m':=fun s hs=>Nat.le_trans (h s hs) hm
theorem spendD_fuse {d:Dsk}(h:FuseOk d):FuseOk (spendD d):=by
  unfold spendD
  split
  · exact h
  · split
    · exact h
    · obtain⟨h1,h2⟩:=h
      refine⟨?_,?_⟩<;>simp only<;>omega
theorem writeD_fuse {d:Dsk}(i:Int)(b:List Int)(h:FuseOk d):FuseOk (writeD d i b):=by
  unfold writeD
  split
  · exact h
  · split
    · split
      · exact spendD_fuse h
      · exact h
    · exact h
theorem writeD_loose {d:Dsk}(i:Int)(b:List Int){m:Nat}(h:LooseLe d m):LooseLe (writeD d i b) (m+1):=by
  unfold writeD
  split
  · exact h.mono (by omega)
  · split
    · split
      · intro s hs
        rw[spendD_l] at hs
        simp only at hs
        obtain⟨j,hj,hjs⟩:=List.getElem_of_mem hs
        have hjs2:(d.l.modify i.toNat fun s=>⟨s.fast,s.loose++[b]⟩)[j]? = some s:=by rw[List.getElem?_eq_getElem hj,hjs]
        rw[List.getElem?_modify] at hjs2
        cases hjd:d.l[j]? with
        | none=>rw[hjd] at hjs2;simp at hjs2
        | some s0=>
          rw[hjd] at hjs2
          have h0:=h s0 (List.mem_of_getElem? hjd)
          by_cases e:i.toNat=j
          · simp[e] at hjs2
            subst hjs2
            simp;omega
          · simp[e] at hjs2
            subst hjs2
            omega
      · exact h.mono (by omega)
    · exact h.mono (by omega)
theorem writeD_len (d:Dsk)(i:Int)(b:List Int):(writeD d i b).l.length=d.l.length:=by
  unfold writeD
  split
  · rfl
  · split
    · split
      · rw[spendD_l];simp
      · rfl
    · rfl
theorem recCells_sub (l:List RecV)(lo m:Nat):((recCells l).drop (lo*10)).take (m*10)=recCells ((l.drop lo).take m):=by
  have key : ∀(l:List RecV) (i:Nat),recCells (l.take i)=(recCells l).take (i*10)∧recCells (l.drop i)=(recCells l).drop (i*10):=by
    intro l
    induction l with
    | nil=>intro i;simp[recCells]
    | cons d ds ih=>
      intro i
      cases i with
      | zero=>simp[recCells]
      | succ i=>
        obtain⟨h1,h2⟩:=ih i
        unfold recCells at h1 h2 ⊢
        simp only[List.take_succ_cons,List.drop_succ_cons,List.flatMap_cons]
        rw[h1,h2]
        have hl:(recL d).length=10:=rfl
        constructor
        · rw[List.take_append,hl,List.take_of_length_le (l:=recL d) (by rw[hl];omega),show (i+1)*10 - 10=i*10 from by omega]
        · rw[List.drop_append,hl,List.drop_of_length_le (l:=recL d) (by rw[hl];omega),show (i+1)*10 - 10=i*10 from by omega,List.nil_append]
  rw[(key (l.drop lo) m).1,(key l lo).2]
theorem frm_app {T1 T2:List Nat}{M:Nat→Prop}{w w':World}(h:Frm T1 M w w'):Frm (T1++T2) M w w':=h.wide (fun t ht=>List.mem_append_left _ ht) fun _ _ hm=>hm
theorem frm_app2 {T1 T2:List Nat}{M:Nat→Prop}{w w':World}(h:Frm T2 M w w'):Frm (T1++T2) M w w':=h.wide (fun t ht=>List.mem_append_right _ ht) fun _ _ hm=>hm
def LFlushPost (a:Nat→Addr)(M:Nat→Prop)(lp dp:Nat)(L:Lg)(d:Dsk)(w:World)(e:Ending)(w':World):Prop:=
  e = .returned (errv a (lflush L d).2.2)∧DskM (Gr M w w') w' dp (lflush L d).2.1∧(∃v',LogM (Gr M w w') w' lp dp v' (lflush L d).1)∧Frm (dTurn++lTurn) M w w'
theorem flushFrom_stop {L:Lg}{f k:Nat}{d:Dsk}(h : ¬k*6<L.l.length):flushFrom L f k d=(d,none):=by
  cases f with
  | zero=>rfl
  | succ f=>unfold flushFrom;rw[if_neg h]
theorem flushFrom_err {L:Lg}{f k:Nat}{d:Dsk}{e:Nat}(h:k*6<L.l.length)(he:writeE d (L.first+k) (blockBytes L.epoch ((L.l.drop (k*6)).take 6))=some e):flushFrom L (f+1) k d=(writeD d (L.first+k) (blockBytes L.epoch ((L.l.drop (k*6)).take 6)),some e):=by
  unfold flushFrom;rw[if_pos h];simp only[he]
theorem flushFrom_next {L:Lg}{f k:Nat}{d:Dsk}(h:k*6<L.l.length)(he:writeE d (L.first+k) (blockBytes L.epoch ((L.l.drop (k*6)).take 6))=none):flushFrom L (f+1) k d=flushFrom L f (k+1) (writeD d (L.first+k) (blockBytes L.epoch ((L.l.drop (k*6)).take 6))):=by
  conv=>lhs;unfold flushFrom
  rw[if_pos h];simp only[he]
theorem log_done {M:Nat→Prop}{w:World}{lp dp:Nat}{v:Value}{L:Lg}(h:LogM M w lp dp v L):LogM M (w.setCell ⟨lp,6,none⟩ (.int .i64 L.l.length)) lp dp v { L with done:=L.l.length }∧Frm lTurn M w (w.setCell ⟨lp,6,none⟩ (.int .i64 L.l.length)):=by
  have hvn : ∀k,v.ownBlock=some k→k≠lp:=fun k e e2=>by
    subst e2
    obtain⟨_,c,hc⟩:=ow_block h.row e
    rw[h.box] at hc
    injection hc with hc;injection hc with _ hc
    exact absurd hc (by decide)
  obtain⟨h1,h2,h3,h4,h5,h6,h7,h8⟩:=h.ok
  exact⟨⟨heap_setCell_same _ _ _ _ _ _ h.box,ow_move h.row fun k hk=>Below.heap_setCell _ _ _ _ (hvn k hk),h.low,h.mp,⟨h1,h2,h3,h4,h5,h6,Nat.le_refl _,h8⟩⟩,frm_box h.box h.mp (by decide) _ _⟩
def flushEnd (L:Lg):Dsk×Option Nat→Lg×Dsk×Option Nat
  | (d',some e)=>(L,d',some e)
  | (d',none)=>match syncE d' with
    | some e=>(L,syncD d',some e)
    | none=>({ L with done:=L.l.length },syncD d',none)
theorem lflush_end {L:Lg}{d:Dsk}(h : ¬L.done=L.l.length):lflush L d=flushEnd L (flushFrom L (L.l.length+1) (L.done / 6) d):=by
  unfold lflush
  rw[if_neg h]
  generalize flushFrom L (L.l.length+1) (L.done / 6) d=r
  obtain⟨d',o⟩:=r
  cases o with
  | some e=>rfl
  | none=>
    unfold flushEnd
    simp only
    cases syncE d'<;>rfl
theorem flush_log (a:Nat→Addr)(M:Nat→Prop)(lp dp:Nat)(v:Value)(L:Lg)(d:Dsk)(w:World)(hs:Sents w a)(hO:Out M a)(hd:DskM M w dp d)(hl:LogM M w lp dp v L)(hf:FuseOk d)(hlo:LooseLe d 50000) :
    Calls Tryz.prog 76 #[.pointer (some ⟨lp,0,none⟩)] w (LFlushPost a M lp dp L d w):=by
  obtain⟨c0,c1,c2,c3,c4,c5,c6⟩:=hl.cells
  obtain⟨A,c,hv⟩:=hl.form
  obtain⟨k1,k2,k3,k4,k5,k6,k7,k8⟩:=lg_bounds hl.ok
  have HS:=Aside0.mk hs
  have HO:=Aside0.mk hO
  have HD:=Aside0.mk hd
  have HL:=Aside0.mk hl
  have HFU:=Aside0.mk hf
  have HLO:=Aside0.mk hlo
  obtain⟨n,hn⟩ : ∃n,L.l.length=n:=⟨_,rfl⟩
  obtain⟨dn,hdn⟩ : ∃n,L.done=n:=⟨_,rfl⟩
  obtain⟨fi,hfi⟩ : ∃n,L.first=n:=⟨_,rfl⟩
  obtain⟨ep,hep⟩ : ∃n,L.epoch=n:=⟨_,rfl⟩
  have HN:=Aside0.mk (And.intro hn (And.intro hdn (And.intro hfi hep)))
  rw[hn] at hv k7 k8
  rw[hdn] at c6 k8
  rw[hfi] at c1 k1 k2
  rw[hep] at c4
  clear hs hO hd hl hf hlo hn hdn hfi hep c2 c3 k3 k4 k5 k6
  subst hv
  by_cases hdd:dn=n
  · subst hdd
    have HR:=Aside0.mk (show lflush L d=(L,d,none) by unfold lflush;rw[if_pos (by rw[HN.out.1,HN.out.2.1])])
    have HPOST:=Aside0.mk (show ∀w',Below w.heap.size w w'→LFlushPost a M lp dp L d w (.returned .nilIface) w' from fun w' hB=>⟨by rw[HR.out];rfl,by rw[HR.out];exact (HD.out.below hB).mono fun k hk=>.inl hk,⟨_,by rw[HR.out];exact (HL.out.below hB).mono fun k hk=>.inl hk⟩,Frm.of_below hB⟩)
    clear c0 c1 c4
    go_enter Tryz.func76,Tryz.ntmps76
    go_wp2_with fail
    go_quiet (fail)
    go_wp2_with fail
    go_ret
    exact HPOST.out _ (by repeat (first | exact Below.refl _ _ | apply pw_below_drewN | apply below_drew1))
  · have hne:((dn:Int) == (n:Int))=false:=by simp;omega
    obtain⟨d0,hd0⟩ : ∃d0,dn / 6=d0:=⟨_,rfl⟩
    have hd06:d0≤1000:=by omega
    have hdiv:(dn:Int) / 6=(d0:Int):=by omega
    have HR:=Aside0.mk (show lflush L d=flushEnd L (flushFrom L (n+1) d0 d) by
      rw[lflush_end (by rw[HN.out.1,HN.out.2.1];exact hdd),HN.out.1,HN.out.2.1,hd0])
    clear hd0
    go_enter Tryz.func76,Tryz.ntmps76
    go_wp2_with fail
    go_quiet (fail)
    go_wp2_with fail
    go_loopg [3] (n+2) (fun kq v3 w' => ∃(k:Int) (dk:Dsk),v3 = .int .i64 k∧Aside0 (0≤k∧d0≤k∧k≤n+1∧k≤2000∧(kq:Int)=n+2 - (k - d0))∧Aside0 (flushFrom L (n+1 - (k.toNat - d0)) k.toNat dk=flushFrom L (n+1) d0 d)∧Aside0 (DskM (Gr M w w') w' dp dk)∧Aside0 (Frm dTurn M w w')∧Aside0 (FuseOk dk∧LooseLe dk (50000+k.toNat)))
    case atStart=>
      have hB : ∀W,Below w.heap.size w W→Aside0 (DskM (Gr M w W) W dp d)∧Aside0 (Frm dTurn M w W):=fun W h=>⟨⟨(HD.out.below h).mono fun k hk=>.inl hk⟩,⟨Frm.of_below h⟩⟩
      exact⟨d0,d,rfl,⟨by omega,by omega,by omega,by omega,by omega⟩,⟨by rw[show ((d0:Int)).toNat=d0 from by omega,Nat.sub_self];rfl⟩,(hB _ (by repeat (first | exact Below.refl _ _ | apply pw_below_drewN | apply below_drew1))).1,(hB _ (by repeat (first | exact Below.refl _ _ | apply pw_below_drewN | apply below_drew1))).2,⟨HFU.out,HLO.out.mono (by omega)⟩⟩
    case round=>
      obtain⟨k,dk,rfl,HK,HFF,HDK,HFR,HOK⟩:=hrel
      have hk0:0≤k:=HK.out.1
      have hk2:k≤2000:=HK.out.2.2.2.1
      have hl':=HL.out.frm HFR.out (by decide)
      obtain⟨e0,e1,_,_,e4,e5,e6⟩:=hl'.cells
      rw[HN.out.2.2.1] at e1
      rw[HN.out.2.2.2] at e4
      rw[HN.out.2.1] at e6
      have HL':=Aside0.mk hl'
      have hs':=sents_frm HS.out HFR.out HO.out
      have HS':=Aside0.mk hs'
      have HO':=Aside0.mk (HO.out.gr HS.out (w':=wr))
      clear hl' hs'
      by_cases hlt:k*6<n
      · obtain⟨g,cap,hv,_,hgl⟩:=HL'.out.row.form (by have:=HN.out.1;omega)
        rw[HN.out.1] at hv
        injection hv with hv1 hv2 hv3
        subst hv1 hv3
        have hrow:=HL'.out.row
        rw[HN.out.1] at hrow
        obtain⟨hcs,hfz,hrd,hnc,hcm⟩:=own_cells hrow
        clear hrow
        unfold maxLen at hcm
        obtain⟨lo,hlo⟩ : ∃lo:Nat,k*6=lo:=⟨(k*6).toNat,by omega⟩
        obtain⟨hi,hhi⟩ : ∃hi:Nat,imin (k*6+6) n=hi:=⟨(imin (k*6+6) n).toNat,by rw[imin_eq];omega⟩
        have hi1:lo<hi∧hi≤n∧hi - lo≤6∧(hi=n∨hi=lo+6):=by rw[imin_eq] at hhi;omega
        have HLO2:=Aside0.mk (And.intro hlo hi1)
        obtain⟨i1,i2,i3,_⟩:=hi1
        have hw1:IntKind.i64.wrap (k*6)=lo:=by rw[IntWalk.i64_in _ (by omega)];exact hlo
        have hw2:IntKind.i64.wrap ((lo:Int)+6)=k*6+6:=by rw[IntWalk.i64_in _ (by omega)];omega
        have hlt2:(lo:Int)<(n:Int):=by omega
        have hcl : ¬c=lo:=by omega
        have hnn:n≤6000:=by omega
        have HSUB:=Aside0.mk (show RecsR wr (.slice (some ⟨g,lo*10,none⟩) (hi - lo) (c - lo)) ((L.l.drop (k.toNat*6)).take 6) from by
          have hR:Rd wr 46 10 (.slice (some ⟨g,0,none⟩) n c) n (recCells L.l):=by
            have:=Rd.of_own HL'.out.row (by rw[HN.out.1];omega)
            rw[HN.out.1] at this;exact this
          have hS:=hR.sub lo hi (c - lo) (by omega) i2 (by omega) (by unfold maxLen;omega)
          rw[recCells_sub,Nat.zero_add] at hS
          have e1:(L.l.drop (k.toNat*6)).take 6=(L.l.drop lo).take (hi - lo):=by
            rw[show k.toNat*6=lo from by omega]
            rcases (HLO2.out.2.2.2.2) with h | h
            · rw[List.take_of_length_le (by rw[List.length_drop,HN.out.1];omega),List.take_of_length_le (by rw[List.length_drop,HN.out.1];omega)]
            · rw[show hi - lo=6 from by omega]
          have e2:((L.l.drop lo).take (hi - lo)).length=hi - lo:=by rw[List.length_take,List.length_drop,HN.out.1];omega
          unfold RecsR
          rw[e1,e2]
          exact hS)
        have HLEN:=Aside0.mk (show ((L.l.drop (k.toNat*6)).take 6).length=hi - lo from HSUB.out.1 |> fun h=>by
          have e2:((L.l.drop (k.toNat*6)).take 6).length=min 6 (n - k.toNat*6):=by rw[List.length_take,List.length_drop,HN.out.1]
          have:=HLO2.out
          omega)
        have HBE:=Aside0.mk (show blockE ep ((L.l.drop (k.toNat*6)).take 6)=none from blockE_good (by
            unfold blockOk inB
            have:=HL.out.ok.epoch
            rw[HN.out.2.2.2] at this
            rw[HLEN.out];simp;omega) fun r hr=>HL.out.ok.recs r (List.mem_of_mem_drop (List.mem_of_mem_take hr)))
        have hq1:hi≤c:=by omega
        have hq2:lo≤hi:=by omega
        have hq3:(lo:Int)≤(hi:Int):=by omega
        have hq4:(hi:Int)≤(c:Int):=by omega
        have hq5:(0:Int)≤(lo:Int):=by omega
        clear hcs hfz hrd hlo hgl
        go_wp2_with fail
        go_region_held3 (fun w'=>w'.cell? ⟨lp,4,none⟩=some (.int .i64 ep)∧w'.cell? ⟨lp,5,none⟩=some (.slice (some ⟨g,0,none⟩) n c))
          (refine⟨?_,?_⟩<;>(first | go_keep | exact hk1 | exact hk2))
          (first | (go_at_call 133;refine (bbytes_calls a ep (.slice (some ⟨g,lo*10,none⟩) (hi - lo) (c - lo)) ((L.l.drop (k.toNat*6)).take 6) _ (by exact HS'.out.below (by repeat (first | exact Below.refl _ _ | apply pw_below_drewN | apply below_drew1))) (by exact HSUB.out.below (by repeat (first | exact Below.refl _ _ | apply pw_below_drewN | apply below_drew1)))).mono ?_;rintro e w4 ⟨b4,rfl,hb4,hB4⟩;have hk1:w4.cell? ⟨lp,4,none⟩=some (.int .i64 ep):=pw_cell_below hB4 e4;have hk2:w4.cell? ⟨lp,5,none⟩=some (.slice (some ⟨g,0,none⟩) n c):=pw_cell_below hB4 e5))
        have hbe:=HBE.out
        rw[hbe,show errv a none = .nilIface from rfl]
        have HB4:=Aside0.mk (show BS w4 b4 (blockBytes ep ((L.l.drop (k.toNat*6)).take 6)) by have h:=hb4;unfold blockV at h;rw[hbe] at h;exact h)
        have HW4:=Aside0.mk (show Below wr.heap.size wr w4 from⟨hB4.os,hB4.tape,hB4.output,hB4.size,hB4.block⟩)
        have hd4:=HDK.out.below HW4.out
        have HF4:=Aside0.mk (HFR.out.step HW4.out)
        have HS4:=Aside0.mk (HS'.out.below HW4.out)
        have f0:w4.cell? ⟨lp,0,none⟩=some (.pointer (some ⟨dp,0,none⟩)):=pw_cell_below HW4.out e0
        have f1:w4.cell? ⟨lp,1,none⟩=some (.int .i64 fi):=pw_cell_below HW4.out e1
        have hwk:IntKind.i64.wrap (fi+k)=fi+k:=IntWalk.i64_in _ (by omega)
        have HD4:=Aside0.mk hd4
        obtain⟨A4,c4',hv4,_⟩:=Rd.form HB4.out
        obtain⟨nb,hnb⟩ : ∃nb,(blockBytes ep ((L.l.drop (k.toNat*6)).take 6)).length=nb:=⟨_,rfl⟩
        rw[hnb] at hv4
        subst hv4
        clear hnb hb4 hB4 hk1 hk2 hd4 hbe hw1 hw2 e0 e1 e4 e5 e6 hq1 hq2 hq3 hq4 hq5
        go_wp2_with fail
        go_region_held3 (fun w'=>w'.cell? ⟨lp,0,none⟩=some (.pointer (some ⟨dp,0,none⟩))∧w'.cell? ⟨lp,1,none⟩=some (.int .i64 fi))
          (refine⟨?_,?_⟩<;>(first | go_keep | exact hk1 | exact hk2))
          (first | (go_at_call 134;refine (write_disk a (Gr M w wr) dp dk (fi+k) _ (blockBytes ep ((L.l.drop (k.toNat*6)).take 6)) _ (by exact HS4.out.below (by repeat (first | exact Below.refl _ _ | apply pw_below_drewN | apply below_drew1))) HO'.out (by exact HD4.out.below (by repeat (first | exact Below.refl _ _ | apply pw_below_drewN | apply below_drew1))) (by exact BS.below HB4.out (by repeat (first | exact Below.refl _ _ | apply pw_below_drewN | apply below_drew1))) (blockBytes_ok _ _ (by rw[HLEN.out];exact HLO2.out.2.2.2.1)).2 HOK.out.1 (HOK.out.2.mono (by omega))).mono ?_;rintro e w5 ⟨rfl,hd5,hf5⟩;have hl5:=((HL'.out.below HW4.out).below (below_drew1 (Below.refl _ _))).frm hf5 (by decide);obtain⟨hk1,hk2,_⟩:=hl5.cells;rw[HN.out.2.2.1] at hk2))
        have HD5:=Aside0.mk (show DskM (Gr M w w5) w5 dp (writeD dk (fi+k) (blockBytes ep ((L.l.drop (k.toNat*6)).take 6))) from hd5.mono fun j hj=>by
          have z1:=HFR.out.size
          have z2:=HW4.out.size
          have z3:=hf5.size
          simp at z3
          rcases hj with (hj | ⟨h1,h2⟩) | ⟨h1,h2⟩
          · exact .inl hj
          · exact .inr ⟨h1,by omega⟩
          · simp at h1;exact .inr ⟨by omega,h2⟩)
        have HF5:=Aside0.mk (show Frm dTurn M w w5 from (HF4.out.drew).transG (hf5.wide (fun _ h=>h) (fun j _ hj=>by
          have z2:=HW4.out.size
          rcases hj with hj | ⟨h1,h2⟩
          · exact .inl hj
          · exact .inr ⟨h1,by simp;omega⟩)))
        clear hd5 hf5 hl5 hk1 hk2 f0 f1 hwk
        cases hwe:writeE dk (fi+k) (blockBytes ep ((L.l.drop (k.toNat*6)).take 6)) with
        | some e=>
          have HFIN:=Aside0.mk (show lflush L d=(L,writeD dk (fi+k) (blockBytes ep ((L.l.drop (k.toNat*6)).take 6)),some e) by
            rw[HR.out,←HFF.out,show n+1 - (k.toNat - d0)=(n - (k.toNat - d0))+1 from by have:=HK.out;have:=HLO2.out;omega,flushFrom_err (by rw[HN.out.1];have:=HLO2.out;omega) (by rw[HN.out.2.2.1,HN.out.2.2.2,show ((k.toNat:Nat):Int)=k from by omega];exact hwe)]
            rw[HN.out.2.2.1,HN.out.2.2.2,show ((k.toNat:Nat):Int)=k from by omega]
            rfl)
          rw[show errv a (some e) = .iface 333 (.pointer (some (a e))) from rfl]
          clear hwe
          go_wp2_with fail
          go_ret
          exact⟨by rw[HFIN.out];rfl,by rw[HFIN.out];exact HD5.out,⟨_,by rw[HFIN.out];exact (HL.out.frm HF5.out (by decide)).mono fun j hj=>.inl hj⟩,frm_app HF5.out⟩
        | none=>
          have HNX:=Aside0.mk (show flushFrom L (n+1 - ((k+1).toNat - d0)) (k+1).toNat (writeD dk (fi+k) (blockBytes ep ((L.l.drop (k.toNat*6)).take 6)))=flushFrom L (n+1) d0 d by
            rw[←HFF.out,show n+1 - (k.toNat - d0)=(n - (k.toNat - d0))+1 from by have:=HK.out;have:=HLO2.out;omega,flushFrom_next (by rw[HN.out.1];have:=HLO2.out;omega) (by rw[HN.out.2.2.1,HN.out.2.2.2,show ((k.toNat:Nat):Int)=k from by omega];exact hwe)]
            rw[HN.out.2.2.1,HN.out.2.2.2,show ((k.toNat:Nat):Int)=k from by omega,show (k+1).toNat=k.toNat+1 from by omega,show n+1 - (k.toNat+1 - d0)=n - (k.toNat - d0) from by have:=HK.out;have:=HLO2.out;omega])
          rw[show errv a none = .nilIface from rfl]
          clear hwe
          go_wp2_with fail
          go_roundg (gk - 1)
          case measure=>have:=HK.out;have:=HLO2.out;omega
          case rel=>exact⟨k+1,_,rfl,⟨by omega,by have:=HK.out;omega,by have:=HLO2.out;omega,by have:=HLO2.out;omega,by have:=HK.out;have:=HLO2.out;omega⟩,HNX,HD5,HF5,⟨writeD_fuse _ _ HOK.out.1,(writeD_loose _ _ HOK.out.2).mono (by omega)⟩⟩
      · have HEND:=Aside0.mk (show lflush L d=flushEnd L (dk,none) by
          rw[HR.out,←HFF.out,flushFrom_stop (by rw[HN.out.1];omega)])
        have hnl:decide (k*6<(n:Int))=false:=decide_eq_false hlt
        have hw1:IntKind.i64.wrap (k*6)=k*6:=IntWalk.i64_in _ (by omega)
        clear hlt
        go_wp2_with fail
        refine (sync_disk a (Gr M w wr) dp dk _ HS'.out HO'.out HDK.out HOK.out.1 (fun s hs=>Nat.le_trans (HOK.out.2 s hs) (by omega))).mono ?_
        rintro e w5 ⟨rfl,hd5,hf5⟩
        have HF5:=Aside0.mk (show Frm dTurn M w w5 from HFR.out.transG hf5)
        have HD5:=Aside0.mk (show DskM (Gr M w w5) w5 dp (syncD dk) from hd5.mono fun j hj=>Gr.grow hf5.size hj)
        have hl5:=HL'.out.frm hf5 (by decide)
        obtain⟨_,_,_,_,_,g5,g6⟩:=hl5.cells
        have hz6:=hl5.frozen 6
        rw[HN.out.2.1] at g6
        have HL5:=Aside0.mk hl5
        clear hd5 hf5 hl5 e0 e1 e4 e5 e6
        cases hse:syncE dk with
        | some e=>
          have HFIN:=Aside0.mk (show lflush L d=(L,syncD dk,some e) by rw[HEND.out];unfold flushEnd;simp only[hse])
          rw[show errv a (some e) = .iface 333 (.pointer (some (a e))) from rfl]
          clear hse
          go_wp2_with fail
          go_ret
          exact⟨by rw[HFIN.out];rfl,by rw[HFIN.out];exact HD5.out,⟨.slice A n c,by rw[HFIN.out];exact HL5.out.mono fun j hj=>.inl hj⟩,frm_app HF5.out⟩
        | none=>
          have HFIN:=Aside0.mk (show lflush L d=({ L with done:=L.l.length },syncD dk,none) by rw[HEND.out];unfold flushEnd;simp only[hse])
          rw[show errv a none = .nilIface from rfl]
          clear hse
          go_wp2_with fail
          go_ret
          obtain⟨r1,r2⟩:=log_done HL5.out
          rw[HN.out.1] at r1 r2
          refine⟨by rw[HFIN.out];rfl,?_,⟨.slice A n c,?_⟩,?_⟩
          · rw[HFIN.out]
            exact (HD5.out.frm r2 (by decide)).mono fun j hj=>by
              rcases hj with hj | ⟨h1,h2⟩
              · exact .inl hj
              · exact .inr ⟨h1,by simpa [World.setCell] using h2⟩
          · rw[HFIN.out]
            have:({ L with done:=L.l.length }:Lg)={ L with done:=n }:=by rw[HN.out.1]
            rw[this]
            exact r1.mono fun j hj=>.inl hj
          · exact (frm_app HF5.out).trans (frm_app2 r2)
end Go.Proofs.YtaplpeoikebedaaGreatDoor.WalF
namespace Go.Proofs.YtaplpeoikebedaaGreatDoor.GoodD
open Go.RowKit See Mem Clone Go.Proofs.YtaplpeoikebedaaGreatDoor.Cell Page PageB PageR PageL Disk DiskN DiskW RecD Dirty SysD WalF
structure Good (d:Dsk) (n:Nat):Prop where
  on:d.off=false
  fuse:d.fuse = -1
  len:d.l.length=n
theorem Good.inD {d:Dsk}{n:Nat}(h:Good d n){i:Int}(h0:0≤i)(h1:i<n):inD d i=true:=by unfold Disk.inD;simp[h.len];omega
theorem Good.spendB {d:Dsk}{n:Nat}(h:Good d n):spendB d=true:=by unfold DiskW.spendB;rw[h.fuse];decide
theorem Good.spendD {d:Dsk}{n:Nat}(h:Good d n):spendD d=d:=by unfold DiskW.spendD;rw[h.fuse];simp
theorem readV_eq {d:Dsk}{i:Int}(ho:d.off=false):readV d i=if 0≤i then ((d.l[i.toNat]?).map Sec.last).getD [] else []:=by
  by_cases h0:0≤i
  · rw[if_pos h0]
    by_cases h1:i<d.l.length
    · have hl:i.toNat<d.l.length:=by omega
      rw[(readE_in ho (by unfold Disk.inD;simp;omega) (List.getElem?_eq_getElem hl)).2,List.getElem?_eq_getElem hl]
      rfl
    · rw[(readE_out ho (by unfold Disk.inD;simp;omega)).2,List.getElem?_eq_none (by omega)]
      rfl
  · rw[if_neg h0,(readE_out ho (by unfold Disk.inD;simp;omega)).2]
theorem Good.readE {d:Dsk}{n:Nat}(h:Good d n){i:Int}(h0:0≤i)(h1:i<n):readE d i=none:=
  (readE_in h.on (h.inD h0 h1) (List.getElem?_eq_getElem (by rw[h.len];omega))).1
theorem Good.write {d:Dsk}{n:Nat}(h:Good d n){i:Int}{b:List Int}(h0:0≤i)(h1:i<n)(hb:b.length=256) :
    writeE d i b=none∧Good (writeD d i b) n∧∀j,readV (writeD d i b) j=if j=i then b else readV d j:=by
  have hd:writeD d i b={ d with l:=d.l.modify i.toNat fun s=>⟨s.fast,s.loose++[b]⟩ }:=by
    unfold writeD
    rw[if_neg (by rw[h.on];decide),if_pos (h.inD h0 h1),if_pos hb]
    exact Good.spendD (n:=n) ⟨h.on,h.fuse,by rw[List.length_modify];exact h.len⟩
  refine⟨?_,?_,fun j => ?_⟩
  · unfold writeE
    rw[if_neg (by rw[h.on];decide),if_pos (h.inD h0 h1),if_pos hb,if_pos h.spendB]
  · rw[hd]
    exact⟨h.on,h.fuse,by rw[List.length_modify];exact h.len⟩
  · rw[hd,readV_eq (by exact h.on),readV_eq h.on]
    simp only
    by_cases hj:j=i
    · subst hj
      rw[if_pos h0,if_pos rfl,List.getElem?_modify,List.getElem?_eq_getElem (show j.toNat<d.l.length by rw[h.len];omega)]
      simp[Sec.last]
    · rw[if_neg hj]
      by_cases hj0:0≤j
      · have hne : ¬i.toNat=j.toNat:=by omega
        rw[if_pos hj0,if_pos hj0,List.getElem?_modify]
        simp[hne]
      · rw[if_neg hj0,if_neg hj0]
theorem Good.sync {d:Dsk}{n:Nat}(h:Good d n):syncE d=none∧Good (syncD d) n∧∀j,readV (syncD d) j=readV d j:=by
  have hd:syncD d={ d with l:=d.l.map fastS }:=by
    unfold syncD
    rw[if_neg (by rw[h.on];decide),if_pos h.spendB,h.spendD]
  refine⟨?_,?_,fun j => ?_⟩
  · unfold syncE
    rw[if_neg (by rw[h.on];decide),if_pos h.spendB]
  · rw[hd]
    exact⟨h.on,h.fuse,by rw[List.length_map];exact h.len⟩
  · rw[hd,readV_eq (by exact h.on),readV_eq h.on]
    simp only[List.getElem?_map,Option.map_map]
    rfl
theorem Good.from {n:Nat}{L:Lg}(hL:0≤L.first)(hr:L.first*6+L.l.length≤n*6) : ∀(f k:Nat) (d:Dsk),Good d n→(flushFrom L f k d).2=none∧Good (flushFrom L f k d).1 n∧∀j,j<L.first→readV (flushFrom L f k d).1 j=readV d j
  | 0,k,d,h=>⟨rfl,h,fun _ _=>rfl⟩
  | f+1,k,d,h=>by
    unfold flushFrom
    by_cases hk:k*6<L.l.length
    · rw[if_pos hk]
      obtain⟨h1,h2,h3⟩:=h.write (i:=L.first+k) (b:=blockBytes L.epoch ((L.l.drop (k*6)).take 6)) (by omega) (by omega) (blockBytes_ok _ _ (by rw[List.length_take];omega)).1
      simp only[h1]
      obtain⟨g1,g2,g3⟩:=Good.from hL hr f (k+1) _ h2
      exact⟨g1,g2,fun j hj=>by rw[g3 j hj,h3 j,if_neg (by omega)]⟩
    · rw[if_neg hk]
      exact⟨rfl,h,fun _ _=>rfl⟩
theorem Good.lflush {n:Nat}{L:Lg}{d:Dsk}(h:Good d n)(hL:0≤L.first)(hr:L.first*6+L.l.length≤n*6)(hd:L.done≤L.l.length) :
    (lflush L d).1={ L with done:=L.l.length }∧(lflush L d).2.2=none∧Good (lflush L d).2.1 n∧∀j,j<L.first→readV (lflush L d).2.1 j=readV d j:=by
  unfold RecD.lflush
  by_cases he:L.done=L.l.length
  · rw[if_pos he]
    exact⟨by rw[←he],rfl,h,fun _ _=>rfl⟩
  · rw[if_neg he]
    obtain⟨g1,g2,g3⟩:=Good.from hL hr (L.l.length+1) (L.done / 6) d h
    obtain⟨q,hq⟩ : ∃q,flushFrom L (L.l.length+1) (L.done / 6) d=q:=⟨_,rfl⟩
    rw[hq] at g1 g2 g3 ⊢
    obtain⟨d',o⟩:=q
    simp only at g1 g2 g3
    subst g1
    obtain⟨s1,s2,s3⟩:=g2.sync
    simp only[s1]
    refine⟨by simp,by simp,s2,fun j hj=>by rw[s3,g3 j hj]⟩
end Go.Proofs.YtaplpeoikebedaaGreatDoor.GoodD
