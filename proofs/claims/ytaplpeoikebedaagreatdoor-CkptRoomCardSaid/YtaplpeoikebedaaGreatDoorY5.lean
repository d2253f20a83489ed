/- Joined texts: PageR, Disk. No condition but what each says. -/
import Derived.Test.YtaplpeoikebedaaGreatDoorY4
import Derived.Deep.RegionLaw
set_option maxHeartbeats 8000000
set_option maxRecDepth 100000
set_option linter.unusedVariables false
set_option linter.unusedSimpArgs false
namespace Go.Proofs.YtaplpeoikebedaaGreatDoor.PageR
open Go.RowKit YtaplpeoikebedaaGreatDoorW.PrintWords YtaplpeoikebedaaGreatDoorW.PrintLast YtaplpeoikebedaaGreatDoorW.PrintMore
open See Mem Clone Go.Proofs.YtaplpeoikebedaaGreatDoor.Cell Page PageB
attribute [local go_sem] max2_imax min2_imin max_two min_two
def fld (bs:List Int)(a s:Nat):Int:=le ((bs.drop a).take s)
def keyAt (bs:List Int)(k:Nat):Int×Int:=(fld bs (16+12*k) 4,IntKind.i64.wrap (fld bs (16+12*k+4) 8))
def keysOf (bs:List Int)(n:Nat):List (Int×Int):=(List.range n).map (keyAt bs)
theorem keysOf_len (bs:List Int)(n:Nat):(keysOf bs n).length=n:=by simp[keysOf]
theorem keysOf_succ (bs:List Int)(n:Nat):keysOf bs (n+1)=keysOf bs n++[keyAt bs n]:=by simp[keysOf,List.range_succ]
def lsnOf (bs:List Int):Int:=fld bs 0 4
def cntOf (bs:List Int):Nat:=(min (fld bs 4 2) 20).toNat
def readPage (bs:List Int):Option (Int×List (Int×Int)):=
  if pageOk (lsnOf bs) (keysOf bs (cntOf bs)) && decide (pageBytes (lsnOf bs) (keysOf bs (cntOf bs))=bs) then some (lsnOf bs,keysOf bs (cntOf bs)) else none
theorem fld_bound {bs:List Int}(h:IsB bs)(a s:Nat)(hs:s≤8):0≤fld bs a s∧fld bs a s<256 ^ s:=by
  obtain⟨h1,h2⟩:=le_bound ((bs.drop a).take s) ((h.drop a).take s)
  refine⟨h1,Int.lt_of_lt_of_le h2 ?_⟩
  have hl:((bs.drop a).take s).length≤s:=by rw[List.length_take];omega
  have:=Nat.pow_le_pow_right (n:=256) (by decide) hl
  exact_mod_cast this
theorem news2_at (W:World)(u v:Value)(e:Nat) : ∀j x,[u,v][j]? = some x→(W.alloc (.cells #[u,v] e)).cell? ((⟨W.heap.size,0,none⟩:Addr).add j)=some x:=by
  intro j x hj
  rw[add_at]
  match j,hj with
  | 0,hj=>simp at hj;subst hj;simp
  | 1,hj=>simp at hj;subst hj;simp
theorem news2_one (x y:Int) : ∀u∈[Value.int .i64 x,Value.int .i64 y],u.oneCell'=true:=by
  intro u hu
  simp at hu
  rcases hu with rfl | rfl<;>rfl
theorem len_ok {n:Nat}(h:n≤100000):n+1≤maxLen:=by unfold maxLen;omega
theorem bytes_ok {n:Nat}(h:n≤100000):(n+1)*16≤140737488355328:=by omega
theorem get_x (v:Value)(bs:List Int)(a s x:Int)(h0:0≤a)(h1:1≤s)(h8:s≤8)(hn:a+s≤bs.length)(hB:IsB bs)(w:World)(hb:BS w v bs)(hx:fld bs a.toNat s.toNat=x) :
    Calls Tryz.prog 104 #[v,.int .i64 a,.int .i64 s] w fun e w'=>e = .returned (.int .u64 x)∧w=w':=by
  subst hx;exact get_calls v bs a s h0 h1 h8 hn hB w hb
def ReadPost (a:Nat→Addr)(bs:List Int)(w:World)(e:Ending)(w':World):Prop:=
  ∃sl,e = .returned (.tuple #[.agg #[.int .i64 ((readPage bs).getD (0,[])).1,sl],errv a (if (readPage bs).isSome then none else some 6)])∧P2 w' 169 sl ((readPage bs).getD (0,[])).2∧Below w.heap.size w w'
theorem read_calls (a:Nat→Addr)(v:Value)(bs:List Int)(w:World)(hs:Sents w a)(hb:BS w v bs)(hl:bs.length=256)(hB:IsB bs) :
    Calls Tryz.prog 93 #[v] w (ReadPost a bs w):=by
  have HS:=Aside0.mk hs
  have HV:=Aside0.mk hb
  have HL:=Aside0.mk hl
  have HIB:=Aside0.mk hB
  obtain⟨A,c,rfl,_⟩:=Rd.form hb
  rw[hl] at HV ⊢
  obtain⟨l4,hl4⟩ : ∃x,fld bs 0 4=x:=⟨_,rfl⟩
  obtain⟨c2,hc2⟩ : ∃x,fld bs 4 2=x:=⟨_,rfl⟩
  have hl4b:=fld_bound hB 0 4 (by decide)
  have hc2b:=fld_bound hB 4 2 (by decide)
  rw[hl4] at hl4b
  rw[hc2] at hc2b
  obtain⟨l0,l1⟩:=hl4b
  obtain⟨c0,c1⟩:=hc2b
  replace l1:l4<4294967296:=l1
  replace c1:c2<65536:=c1
  obtain⟨n,hmin⟩ : ∃n,imin c2 20=n:=⟨_,rfl⟩
  have hn0:0≤n:=by rw[imin_eq] at hmin;omega
  have hn1:n≤20:=by rw[imin_eq] at hmin;omega
  have HL4:=Aside0.mk hl4
  have HC2:=Aside0.mk hc2
  have HMIN:=Aside0.mk hmin
  clear hs hb hl hB hl4 hc2
  go_enter Tryz.func93,Tryz.ntmps93
  go_wp2_with fail
  refine (get_x _ bs 0 4 l4 (by omega) (by omega) (by omega) (by rw[HL.out];decide) HIB.out _ (by have:=HV.out;exact BS.below this (below_alloc (Below.refl _ _) _)) HL4.out).mono ?_
  rintro e w' ⟨rfl,rfl⟩
  go_wp2_with fail
  refine (get_x _ bs 4 2 c2 (by omega) (by omega) (by omega) (by rw[HL.out];decide) HIB.out _ (by have:=HV.out;exact BS.below this (by repeat (first | exact Below.refl _ _ | apply below_drew1 | apply below_alloc))) HC2.out).mono ?_
  rintro e w' ⟨rfl,rfl⟩
  go_wp2_with fail
  obtain⟨nn,hnn⟩ : ∃nn:Nat,n.toNat=nn:=⟨_,rfl⟩
  have HNN:=Aside0.mk hnn
  clear hnn hmin
  go_loopg [22] (nn+1) (fun kq v22 w' => ∃(i:Int) (sl:Value),v22 = .int .i64 i∧Aside0 (0≤i∧i≤n∧(kq:Int)=nn+1 - i)∧Aside0 (w.heap.size+2≤w'.heap.size)∧Aside0 (w'.cell? ⟨w.heap.size+1,0,none⟩=some (.int .i64 l4)∧w'.cell? ⟨w.heap.size+1,1,none⟩=some sl∧w'.frozen? ⟨w.heap.size+1,1,none⟩=false)∧Aside0 (w'.ownsRow (w.heap.size+2) 169 2 sl i.toNat (cells2 (keysOf bs i.toNat)))∧Aside0 (Below (w.heap.size+1) (w.alloc (.cells #[.int .i64 0,.slice none 0 0] 74)) w'))
  case atStart=>exact⟨0,.slice none 0 0,rfl,⟨by omega,by omega,by omega⟩,⟨by simp⟩,⟨by simp,by simp,by simp⟩,⟨World.ownsRow_nil _ _ _ _⟩,⟨Below.alloc (Below.refl _ _) (by simp) _⟩⟩
  case round=>
    obtain⟨i,sl,rfl,HI,HSZ,HC,HO,HBZ⟩:=hrel
    have HB:=Aside0.mk ((below_alloc (Below.refl w.heap.size w) (.cells #[.int .i64 0,.slice none 0 0] 74)).trans (HBZ.out.mono (Nat.le_succ _)))
    have hi0:0≤i:=HI.out.1
    by_cases hlt:i<n
    · obtain⟨i0,hi,hzz⟩:=Option.map_eq_some_iff.1 info_entries
      simp only[Prod.mk.injEq] at hzz
      obtain⟨hz0,hz1,hz2⟩:=hzz
      obtain⟨x,hx⟩ : ∃x,fld bs (16+12*i.toNat) 4=x:=⟨_,rfl⟩
      obtain⟨y,hy⟩ : ∃y,fld bs (16+12*i.toNat+4) 8=y:=⟨_,rfl⟩
      have hxb:=fld_bound HIB.out (16+12*i.toNat) 4 (by decide)
      rw[hx] at hxb
      obtain⟨x0,x1⟩:=hxb
      replace x1:x<4294967296:=x1
      obtain⟨p,hp⟩ : ∃p,16+i*12=p:=⟨_,rfl⟩
      have HXF:=Aside0.mk (show fld bs p.toNat (4:Int).toNat=x by rw[←hp,show (16+i*12).toNat=16+12*i.toNat from by omega];exact hx)
      have HYF:=Aside0.mk (show fld bs (p+4).toNat (8:Int).toNat=y by rw[←hp,show (16+i*12+4).toNat=16+12*i.toNat+4 from by omega];exact hy)
      have HKEY:=Aside0.mk (show keyAt bs i.toNat=(x,IntKind.i64.wrap y) by unfold keyAt;rw[hx,hy])
      have hp0:0≤p:=by omega
      have hp1:p≤244:=by omega
      have hin:IntKind.i64.wrap (p+4)=p+4:=IntWalk.i64_in _ (by omega)
      have hc0:=HC.out.2.1
      have hf0:=HC.out.2.2
      have hsz1:w.heap.size+1<wr.heap.size:=by have:=HSZ.out;omega
      have hwx:IntKind.i64.wrap x=x:=IntWalk.i64_in _ (by omega)
      have hn5:i.toNat≤100000:=by omega
      clear hx hy
      go_wp2_with fail
      go_region_law (first
        | (go_simp;go_at_call 104;have:=hg1;refine (get_x _ bs (p+4) 8 y (by omega) (by omega) (by omega) (by rw[HL.out];omega) HIB.out _ (by have:=HV.out;exact BS.below this (by repeat (first | exact HB.out | apply below_drew1 | apply below_alloc))) HYF.out).mono ?_;rintro e w' ⟨rfl,rfl⟩)
        | (go_simp;go_at_call 104;refine (get_x _ bs p 4 x (by omega) (by omega) (by omega) (by rw[HL.out];omega) HIB.out _ (by have:=HV.out;exact BS.below this (by repeat (first | exact HB.out | apply below_drew1 | apply below_alloc))) HXF.out).mono ?_;rintro e w' ⟨rfl,rfl⟩;have hg1:=trivial)
        | (refine step_append_lies _ (by rfl) _ _ 72 (by rfl) (w.heap.size+2) 169 i0 (.agg #[.int .i64 0,.int .i64 0]) 2 16 Tryz.underlying72 hi hz0 hz1 hz2 rfl (by decide) _ i.toNat (cells2 (keysOf bs i.toNat)) (by rfl) (by exact ow_below HO.out (by repeat (first | exact Below.refl _ _ | apply below_drew1 | apply below_alloc))) ⟨wr.heap.size,0,none⟩ 1 1 [.int .i64 x,.int .i64 (IntKind.i64.wrap y)] (by rfl) rfl (by exact news2_at wr _ _ _) (by exact news2_one _ _) (by decide) (by exact len_ok hn5) (by exact bytes_ok hn5) (by have:=HSZ.out;simp;omega) (wr.heap.size+1) (by simp) ?_;intro g2 cap2 w3 hown hgr hor hlt3;have hblk:w3.heap[w.heap.size+1]? = wr.heap[w.heap.size+1]? := grown_blk hgr (Below.heap_alloc _ _ _ (by have:=HSZ.out;show w.heap.size+1<wr.heap.size;omega)) (by have:=HSZ.out;simp;omega) (fun k hk=>by have:=(ow_block HO.out hk).1;omega);have hs1:w3.cell? ⟨w.heap.size+1,1,none⟩=some sl:=(World.cell?_of_block (w:=wr) (a:=⟨w.heap.size+1,1,none⟩) hblk).trans hc0;have hs2:w3.frozen? ⟨w.heap.size+1,1,none⟩=false:=(World.frozen?_of_block (w:=wr) (a:=⟨w.heap.size+1,1,none⟩) hblk).trans hf0))
      all_goals
        have hblkw : ∀b,b<w.heap.size+2→w3.heap[b]? = wr.heap[b]? := fun b hb=>grown_blk (v:=sl) hgr (Below.heap_alloc _ _ _ (by have:=HSZ.out;show b<wr.heap.size;omega)) (by have:=HSZ.out;simp;omega) (fun k hk=>by have:=(ow_block HO.out hk).1;omega)
        have HBW:=Aside0.mk hblkw
        have HO3:=Aside0.mk (show w3.ownsRow (w.heap.size+2) 169 2 (.slice (some ⟨g2,0,none⟩) (i.toNat+1) cap2) (i.toNat+1) (cells2 (keysOf bs (i.toNat+1))) from by rw[keysOf_succ,cells2_snoc,HKEY.out];exact hown)
        have HB3:=Aside0.mk (show Below (w.heap.size+1) (w.alloc (.cells #[.int .i64 0,.slice none 0 0] 74)) w3 from (HBZ.out.trans (Below.mono (below_alloc (Below.refl wr.heap.size wr) (.cells #[.int .i64 x,.int .i64 (IntKind.i64.wrap y)] 169)) (by have:=HSZ.out;omega))).grown (w:=(wr.alloc (.cells #[.int .i64 x,.int .i64 (IntKind.i64.wrap y)] 169))) (row:=sl.ownBlock) ⟨hgr.os,hgr.tape,hgr.output,hgr.size,hgr.block⟩ (by have:=HSZ.out;simp;omega) (fun k hk=>by have:=(ow_block HO.out hk).1;omega))
        have HSZ3:=Aside0.mk (show w.heap.size+2≤w3.heap.size by have:=hgr.size;have:=HSZ.out;simp at *;omega)
        have HS1:=Aside0.mk hs1
        have HS2:=Aside0.mk hs2
        clear hblkw hown hgr hor hlt3 hblk hs1 hs2 hi hz0 hz1 hz2 hin hwx
        go_wp2_with fail
        go_roundg (gk - 1)
        case measure=>have:=HI.out;have:=HNN.out;omega
        case rel=>
          refine⟨i+1,.slice (some ⟨g2,0,none⟩) (i.toNat+1) cap2,rfl,⟨by omega,by omega,by have:=HI.out;have:=HNN.out;omega⟩,⟨by have:=HSZ3.out;simpa [World.setCell] using this⟩,⟨?_,?_,?_⟩,⟨?_⟩,⟨?_⟩⟩
          · rw[World.cell?_setCell_other _ _ _ _ (by simp),World.cell?_of_block (w:=wr) (HBW.out _ (by show w.heap.size+1<_;omega))];exact HC.out.1
          · exact World.cell?_setCell_same _ _ _ HS1.out
          · rw[World.frozen?_setCell];exact HS2.out
          · rw[show (i+1).toNat=i.toNat+1 from by omega]
            exact ow_move HO3.out (fun k hk=>Below.heap_setCell _ _ _ _ (by have:=(ow_block HO3.out hk).1;show k≠w.heap.size+1;omega))
          · exact HB3.out.setCell (by show w.heap.size+1≤w.heap.size+1;omega) _
    · obtain⟨A',cp,rfl,_⟩:=ow_slice HO.out
      have HN:=Aside0.mk (show i=n by have:=HI.out;omega)
      have HCNT:=Aside0.mk (show i.toNat=cntOf bs by unfold cntOf;rw[HC2.out,←imin_eq,HMIN.out,HN.out])
      have HP2:=Aside0.mk (show P2 wr 169 (.slice A' i.toNat cp) (keysOf bs (cntOf bs)) from⟨by have:=ow_base HO.out (Nat.zero_le _);rw[←HCNT.out,keysOf_len];exact this,by rw[keysOf_len,←HCNT.out];have:=HN.out;omega⟩)
      have HLSN:=Aside0.mk (show lsnOf bs=l4 from HL4.out)
      have hc0:=HC.out.1
      have hc1:=HC.out.2.1
      go_wp2_with fail
      refine (bytes_calls a l4 _ _ _ (HS.out.below HB.out) HP2.out).mono ?_
      rintro e w2 ⟨v2,rfl,hv2,hb2⟩
      have HV2:=Aside0.mk hv2
      have HB2:=Aside0.mk hb2
      have hlt2:w.heap.size+2≤wr.heap.size:=HSZ.out
      have hd0:w2.cell? ⟨w.heap.size+1,0,none⟩=some (.int .i64 l4):=by rw[hb2.cell (p:=⟨w.heap.size+1,0,none⟩) (by show w.heap.size+1<wr.heap.size;omega)];exact hc0
      have hd1:w2.cell? ⟨w.heap.size+1,1,none⟩=some (.slice A' i.toNat cp):=by rw[hb2.cell (p:=⟨w.heap.size+1,1,none⟩) (by show w.heap.size+1<wr.heap.size;omega)];exact hc1
      have hB2:Below (w.heap.size+1) (w.alloc (.cells #[.int .i64 0,.slice none 0 0] 74)) w2:=HBZ.out.trans (hb2.mono (by omega))
      have he0:w2.cell? ⟨w.heap.size,0,none⟩=some (.int .i64 0):=by rw[hB2.cell (p:=⟨w.heap.size,0,none⟩) (by show w.heap.size<w.heap.size+1;omega)];simp
      have he1:w2.cell? ⟨w.heap.size,1,none⟩=some (.slice none 0 0):=by rw[hB2.cell (p:=⟨w.heap.size,1,none⟩) (by show w.heap.size<w.heap.size+1;omega)];simp
      have hf0:w2.frozen? ⟨w.heap.size,0,none⟩=false:=by rw[hB2.frozen (p:=⟨w.heap.size,0,none⟩) (by show w.heap.size<w.heap.size+1;omega)];simp
      have hf1:w2.frozen? ⟨w.heap.size,1,none⟩=false:=by rw[hB2.frozen (p:=⟨w.heap.size,1,none⟩) (by show w.heap.size<w.heap.size+1;omega)];simp
      have HBB2:=Aside0.mk (below_step HB.out hb2)
      have hg1:w2.cell? ⟨7,0,none⟩=some (.iface 333 (.pointer (some (a 6)))):=(HS.out.below HBB2.out).cell 6 (by decide)
      have hgl:7<w.heap.size:=World.block_lt_of_cell? _ _ (HS.out.cell 6 (by decide))
      have hgn : ¬(w.heap.size=7):=by omega
      have hgn' : ¬(7=w.heap.size):=by omega
      clear hb2 hv2 hc0 hc1 hB2
      by_cases hok:pageOk l4 (keysOf bs (cntOf bs))=true
      · have hce:errv a (checkE l4 (keysOf bs (cntOf bs))) = .nilIface:=by unfold checkE;rw[if_pos hok];rfl
        rw[hce]
        have HBV:=Aside0.mk (show bytesV l4 (keysOf bs (cntOf bs))=pageBytes l4 (keysOf bs (cntOf bs)) by unfold bytesV;rw[if_pos hok])
        rw[HBV.out] at HV2
        have heq:=equal_calls v2 (.slice A 256 c) (pageBytes l4 (keysOf bs (cntOf bs))) bs w2 HV2.out (BS.below HV.out HBB2.out) (pbN_isB _ _ _) HIB.out
        by_cases hpb:pageBytes l4 (keysOf bs (cntOf bs))=bs
        · have HRP:=Aside0.mk (show readPage bs=some (l4,keysOf bs (cntOf bs)) by unfold readPage;rw[HLSN.out,hok,decide_eq_true hpb];rfl)
          rw[decide_eq_true hpb] at heq
          have HEQ:=Aside0.mk heq
          clear heq hce
          go_wp2_with fail
          refine HEQ.out.mono ?_
          rintro e w' ⟨rfl,rfl⟩
          go_wp2_with fail
          exact bodyPost_ret (v:=.tuple #[.agg #[.int .i64 l4,.slice A' i.toNat cp],.nilIface]) (by simp[results,Tryz.results93,go_sem,he0,he1,hf0,hf1]) rfl ⟨.slice A' i.toNat cp,by rw[HRP.out];rfl,by
            rw[HRP.out]
            show P2 _ _ (.slice A' i.toNat cp) (keysOf bs (cntOf bs))
            refine⟨ow_move (P2.below HP2.out HB2.out).1 (fun k hk => ?_),HP2.out.2⟩
            have hk2:w.heap.size+2≤k:=(ow_block HO.out hk).1
            rw[Below.heap_setCell _ _ _ _ (by show k≠w.heap.size;omega),Below.heap_setCell _ _ _ _ (by show k≠w.heap.size;omega)],(HBB2.out.setCell (Nat.le_refl _) _).setCell (Nat.le_refl _) _⟩
        · have HRP:=Aside0.mk (show readPage bs=none by unfold readPage;rw[HLSN.out,hok,decide_eq_false hpb];rfl)
          rw[decide_eq_false hpb] at heq
          have HEQ:=Aside0.mk heq
          clear heq hce
          go_wp2_with fail
          refine HEQ.out.mono ?_
          rintro e w' ⟨rfl,rfl⟩
          go_wp2_with fail
          go_region
          all_goals
            go_wp2_with fail
            exact bodyPost_ret (v:=.tuple #[.agg #[.int .i64 0,.slice none 0 0],.iface 333 (.pointer (some (a 6)))]) (by simp[results,Tryz.results93,go_sem,he0,he1,hf0,hf1]) rfl ⟨.slice none 0 0,by rw[HRP.out];rfl,by
              rw[HRP.out]
              exact P2.nil _ _,by repeat (first | exact (HBB2.out.setCell (Nat.le_refl _) _).setCell (Nat.le_refl _) _ | apply pw_below_drewN | apply below_drew1)⟩
      · have hce:errv a (checkE l4 (keysOf bs (cntOf bs))) = .iface 333 (.pointer (some (a 1))):=by unfold checkE;rw[if_neg hok];rfl
        rw[hce]
        have HRP:=Aside0.mk (show readPage bs=none by unfold readPage;rw[HLSN.out,Bool.eq_false_iff.2 hok];rfl)
        clear hce
        go_wp2_with fail
        go_region
        all_goals
          go_wp2_with fail
          exact bodyPost_ret (v:=.tuple #[.agg #[.int .i64 0,.slice none 0 0],.iface 333 (.pointer (some (a 6)))]) (by simp[results,Tryz.results93,go_sem,he0,he1,hf0,hf1]) rfl ⟨.slice none 0 0,by rw[HRP.out];rfl,by
            rw[HRP.out]
            exact P2.nil _ _,by repeat (first | exact (HBB2.out.setCell (Nat.le_refl _) _).setCell (Nat.le_refl _) _ | apply pw_below_drewN | apply below_drew1)⟩
end Go.Proofs.YtaplpeoikebedaaGreatDoor.PageR
namespace Go.Proofs.YtaplpeoikebedaaGreatDoor.Disk
open Go.RowKit YtaplpeoikebedaaGreatDoorW.PrintWords YtaplpeoikebedaaGreatDoorW.PrintLast YtaplpeoikebedaaGreatDoorW.PrintMore
open See Mem Clone Go.Proofs.YtaplpeoikebedaaGreatDoor.Cell Page PageB PageR
attribute [local go_sem] max2_imax min2_imin max_two min_two
structure Sec where
  fast:List Int
  loose:List (List Int)
structure Dsk where
  l:List Sec
  off:Bool
  fuse:Int
def SecB (b:List Int):Prop:=b.length=256∧IsB b
def Sec.ok (s:Sec):Prop:=SecB s.fast∧∀b∈s.loose,SecB b
def Sec.last (s:Sec):List Int:=s.loose.getLast?.getD s.fast
theorem Sec.last_ok {s:Sec}(h:s.ok):SecB s.last:=by
  unfold Sec.last
  cases hl:s.loose.getLast? with
  | none=>exact h.1
  | some b=>exact h.2 b (List.mem_of_getLast? hl)
structure SecM (M:Nat→Prop) (w:World) (u v:Value) (s:Sec):Prop where
  fast:BS w u s.fast
  loose : ∃vs:List Value,w.ownsRow 0 93 1 v s.loose.length vs∧∀(i:Nat) (b:List Int),s.loose[i]? = some b→∃x:Value,vs[i]? = some x∧BS w x b
  low : ∀k,v.ownBlock=some k→M k
def secCells (rs:List (Value×Value)):List Value:=rs.flatMap fun r=>[r.1,r.2]
theorem secCells_at : ∀(rs:List (Value×Value)) (i:Nat) (r:Value×Value),rs[i]? = some r→(secCells rs)[i*2]? = some r.1∧(secCells rs)[i*2+1]? = some r.2
  | [],i,t,h=>by simp at h
  | s :: ps,0,t,h=>by
    simp at h;subst h
    exact⟨by simp[secCells,List.flatMap_cons],by simp[secCells,List.flatMap_cons]⟩
  | s :: ps,i+1,t,h=>by
    have:=secCells_at ps i t (by simpa using h)
    have e:secCells (s :: ps)=[s.1,s.2]++secCells ps:=by simp[secCells,List.flatMap_cons]
    rw[e,List.getElem?_append_right (by simp;omega),List.getElem?_append_right (by simp;omega)]
    simp only[List.length_cons,List.length_nil]
    rw[show (i+1)*2 - (0+1+1)=i*2 from by omega,show (i+1)*2+1 - (0+1+1)=i*2+1 from by omega]
    exact this
theorem secCells_append (a b:List (Value×Value)):secCells (a++b)=secCells a++secCells b:=by unfold secCells;rw[List.flatMap_append]
def dskCells (g cap:Nat)(d:Dsk):Array Value:=#[.slice (some ⟨g,0,none⟩) d.l.length cap,.bool d.off,.int .i64 d.fuse]
structure DskAt (M:Nat→Prop) (w:World) (p g cap:Nat) (rs:List (Value×Value)) (d:Dsk):Prop where
  box:w.heap[p]? = some (.cells (dskCells g cap d) 173 (0,0))
  row:w.ownsRow 0 175 2 (.slice (some ⟨g,0,none⟩) d.l.length cap) d.l.length (secCells rs)
  len:rs.length=d.l.length
  mp:M p
  mg:M g
  secs : ∀(i:Nat) r s,rs[i]? = some r→d.l[i]? = some s→SecM M w r.1 r.2 s
  apart : ∀(i j:Nat) r q k,rs[i]? = some r→rs[j]? = some q→r.2.ownBlock=some k→q.2.ownBlock=some k→i=j
  ok : ∀s∈d.l,s.ok
  few:d.l.length≤200
def DskM (M:Nat→Prop)(w:World)(p:Nat)(d:Dsk):Prop := ∃g cap rs,DskAt M w p g cap rs d
def dTags:List Nat:=[173,175,93,5]
def dTurn:List Nat:=[173,175,93]
theorem SecM.move {M:Nat→Prop}{w w':World}{u v:Value}{s:Sec}(h:SecM M w u v s)(hb : ∀k,k<w.heap.size→tag w k∈dTags→w'.heap[k]? = w.heap[k]?):SecM M w' u v s:=by
  have hr : ∀x b,BS w x b→BS w' x b:=fun x b hx=>Rd.move hx (fun k hk=>by
    obtain⟨c,fz,hc⟩:=Rd.block hx hk
    exact hb k (heap_lt hc) (by rw[tag_of hc];decide))
  obtain⟨vs,h1,h2⟩:=h.loose
  refine⟨hr _ _ h.fast,⟨vs,ow_move h1 (fun k hk=>by obtain⟨_,c,hc⟩:=ow_block h1 hk;exact hb k (heap_lt hc) (by rw[tag_of hc];decide)),fun i b hi => ?_⟩,h.low⟩
  obtain⟨x,hx,hx2⟩:=h2 i b hi
  exact⟨x,hx,hr _ _ hx2⟩
theorem SecM.mono {M M':Nat→Prop}{w:World}{u v:Value}{s:Sec}(h:SecM M w u v s)(hm : ∀k,M k→M' k):SecM M' w u v s:=⟨h.fast,h.loose,fun k hk=>hm k (h.low k hk)⟩
theorem DskAt.move {M:Nat→Prop}{w w':World}{p g cap:Nat}{rs:List (Value×Value)}{d:Dsk}(h:DskAt M w p g cap rs d)(hb : ∀k,k<w.heap.size→tag w k∈dTags→w'.heap[k]? = w.heap[k]?):DskAt M w' p g cap rs d:=
  ⟨(hb p (heap_lt h.box) (by rw[tag_of h.box];decide)).trans h.box,
   ow_move h.row (fun k hk=>by obtain⟨_,c,hc⟩:=ow_block h.row hk;exact hb k (heap_lt hc) (by rw[tag_of hc];decide)),
   h.len,h.mp,h.mg,fun i r s hi hs=>(h.secs i r s hi hs).move hb,h.apart,h.ok,h.few⟩
theorem DskAt.mono {M M':Nat→Prop}{w:World}{p g cap:Nat}{rs:List (Value×Value)}{d:Dsk}(h:DskAt M w p g cap rs d)(hm : ∀k,M k→M' k):DskAt M' w p g cap rs d:=
  ⟨h.box,h.row,h.len,hm _ h.mp,hm _ h.mg,fun i r s hi hs=>(h.secs i r s hi hs).mono hm,h.apart,h.ok,h.few⟩
theorem DskM.move {M:Nat→Prop}{w w':World}{p:Nat}{d:Dsk}(h:DskM M w p d)(hb : ∀k,k<w.heap.size→tag w k∈dTags→w'.heap[k]? = w.heap[k]?):DskM M w' p d:=by
  obtain⟨g,cap,rs,h⟩:=h;exact⟨g,cap,rs,h.move hb⟩
theorem DskM.mono {M M':Nat→Prop}{w:World}{p:Nat}{d:Dsk}(h:DskM M w p d)(hm : ∀k,M k→M' k):DskM M' w p d:=by
  obtain⟨g,cap,rs,h⟩:=h;exact⟨g,cap,rs,h.mono hm⟩
theorem DskM.below {M:Nat→Prop}{w w':World}{p:Nat}{d:Dsk}(h:DskM M w p d)(hb:Below w.heap.size w w'):DskM M w' p d:=h.move fun k hk _=>hb.block k hk
theorem DskM.frm {T:List Nat}{M M':Nat→Prop}{w w':World}{p:Nat}{d:Dsk}(h:DskM M w p d)(hf:Frm T M' w w')(hT : ∀t∈dTags,t∉T):DskM M w' p d:=
  h.move fun k hk ht=>hf.block k hk fun _=>hT _ ht
theorem DskAt.cells {M:Nat→Prop}{w:World}{p g cap:Nat}{rs:List (Value×Value)}{d:Dsk}(h:DskAt M w p g cap rs d) :
    w.cell? ⟨p,0,none⟩=some (.slice (some ⟨g,0,none⟩) d.l.length cap)∧w.cell? ⟨p,1,none⟩=some (.bool d.off)∧w.cell? ⟨p,2,none⟩=some (.int .i64 d.fuse):=by
  refine⟨?_,?_,?_⟩<;>simp[World.cell?,h.box,dskCells]
theorem DskAt.sec {M:Nat→Prop}{w:World}{p g cap:Nat}{rs:List (Value×Value)}{d:Dsk}(h:DskAt M w p g cap rs d){i:Nat}{r:Value×Value}(hi:rs[i]? = some r) :
    w.cell? ⟨g,i*2,none⟩=some r.1∧w.cell? ⟨g,i*2+1,none⟩=some r.2:=by
  have hl:=h.row
  have hlt:i<rs.length:=(List.getElem?_eq_some_iff.1 hi).1
  obtain⟨c0,c1⟩:=secCells_at rs i r hi
  rw[hl.cellAt _ (by have:=h.len;omega),hl.cellAt _ (by have:=h.len;omega)]
  exact⟨c0,c1⟩
theorem at_in (p g n cap:Nat)(i:Int)(w:World)(hc:w.cell? ⟨p,0,none⟩=some (.slice (some ⟨g,0,none⟩) n cap))(h0:0≤i)(h1:i<n) :
    Calls Tryz.prog 102 #[.pointer (some ⟨p,0,none⟩),.int .i64 i] w fun e w'=>e = .returned (.pointer (some ⟨g,i.toNat*2,none⟩))∧w=w':=by
  go_enter Tryz.func102,Tryz.ntmps102
  go_wp2
  go_ret
  simp
theorem at_out (p g n cap:Nat)(i:Int)(w:World)(hc:w.cell? ⟨p,0,none⟩=some (.slice (some ⟨g,0,none⟩) n cap))(h:i<0∨(n:Int)≤i) :
    Calls Tryz.prog 102 #[.pointer (some ⟨p,0,none⟩),.int .i64 i] w fun e w'=>e = .returned (.pointer none)∧w=w':=by
  rcases (show i<0∨(0≤i∧(n:Int)≤i) by omega) with h | ⟨h,h2⟩
  · go_enter Tryz.func102,Tryz.ntmps102
    go_wp2
    go_ret
    simp
  · go_enter Tryz.func102,Tryz.ntmps102
    go_wp2
    go_ret
    simp
def inD (d:Dsk)(i:Int):Bool:=decide (0≤i) && decide (i<d.l.length)
def readV (d:Dsk)(i:Int):List Int:=if d.off then [] else if inD d i then (d.l[i.toNat]?.map Sec.last).getD [] else []
def readE (d:Dsk)(i:Int):Option Nat:=if d.off then some 0 else if inD d i then none else some 1
def ReadDPost (a:Nat→Addr)(d:Dsk)(i:Int)(w:World)(e:Ending)(w':World):Prop:=
  ∃v,e = .returned (.tuple #[v,errv a (readE d i)])∧BS w' v (readV d i)∧Below w.heap.size w w'
theorem readE_off {d:Dsk}{i:Int}(h:d.off=true):readE d i=some 0∧readV d i=[]:=by unfold readE readV;simp[h]
theorem readE_out {d:Dsk}{i:Int}(h:d.off=false)(hi:inD d i=false):readE d i=some 1∧readV d i=[]:=by unfold readE readV;simp[h,hi]
theorem readE_in {d:Dsk}{i:Int}{s:Sec}(h:d.off=false)(hi:inD d i=true)(hs:d.l[i.toNat]? = some s):readE d i=none∧readV d i=s.last:=by unfold readE readV;simp[h,hi,hs]
theorem inD_true {d:Dsk}{i:Int}(h:inD d i=true):0≤i∧i<d.l.length:=by unfold inD at h;simpa using h
theorem inD_false {d:Dsk}{i:Int}(h:inD d i=false):i<0∨(d.l.length:Int)≤i:=by
  unfold inD at h;simp at h;omega
theorem read_disk (a:Nat→Addr)(M:Nat→Prop)(p:Nat)(d:Dsk)(i:Int)(w:World)(hs:Sents w a)(hd:DskM M w p d) :
    Calls Tryz.prog 50 #[.pointer (some ⟨p,0,none⟩),.int .i64 i] w (ReadDPost a d i w):=by
  obtain⟨g,cap,rs,hd⟩:=hd
  obtain⟨hc0,hc1,hc2⟩:=hd.cells
  have HD:=Aside0.mk hd
  have HS:=Aside0.mk hs
  have hg0:w.cell? ⟨8,0,none⟩=some (.iface 333 (.pointer (some (a 0)))):=hs.cell 0 (by decide)
  have hg1:w.cell? ⟨6,0,none⟩=some (.iface 333 (.pointer (some (a 1)))):=hs.cell 1 (by decide)
  have hpost : ∀v o e,readE d i=o→readV d i=e→∀w',BS w' v e→Below w.heap.size w w'→ReadDPost a d i w (.returned (.tuple #[v,errv a o])) w':=fun v o e h1 h2 w' hb hB=>⟨v,by rw[h1],by rw[h2];exact hb,hB⟩
  have HPOST:=Aside0.mk hpost
  obtain⟨off,hoff⟩ : ∃o,d.off=o:=⟨_,rfl⟩
  have HOFF:=Aside0.mk hoff
  rw[hoff] at hc1
  clear hd hs hpost hoff hc2
  have hat:Aside0 (∃q:Option Addr,(inD d i=true→q=some ⟨g,i.toNat*2,none⟩)∧(inD d i=false→q=none)∧Calls Tryz.prog 102 #[.pointer (some ⟨p,0,none⟩),.int .i64 i] w fun e w'=>e = .returned (.pointer q)∧w=w'):=by
    refine⟨?_⟩
    cases hin:inD d i with
    | true=>exact⟨_,fun _=>rfl,fun h=>(by cases h),at_in p g _ cap i w hc0 (inD_true hin).1 (inD_true hin).2⟩
    | false=>exact⟨none,fun h=>(by cases h),fun _=>rfl,at_out p g _ cap i w hc0 (inD_false hin)⟩
  clear hc0
  obtain⟨q,hq1,hq2,hcall⟩:=hat.out
  have HQ1:=Aside0.mk hq1
  have HQ2:=Aside0.mk hq2
  have HCALL:=Aside0.mk hcall
  clear hq1 hq2 hcall hat
  go_enter Tryz.func50,Tryz.ntmps50
  go_wp2_with fail
  refine HCALL.out.mono ?_
  rintro e w' ⟨rfl,rfl⟩
  cases off with
  | true=>
    go_wp2_with fail
    go_region
    all_goals
      go_wp2_with fail
      exact bodyPost_ret (v:=.tuple #[.slice none 0 0,.iface 333 (.pointer (some (a 0)))]) (by simp[results,Tryz.results50,go_sem]) rfl (HPOST.out _ (some 0) [] (readE_off HOFF.out).1 (readE_off HOFF.out).2 _ (BS.nil _) (by repeat (first | exact Below.refl _ _ | apply pw_below_drewN | apply below_drew1)))
  | false=>
    cases hin:inD d i with
    | false=>
      have hq:=HQ2.out hin
      have HIN:=Aside0.mk hin
      clear hin
      subst hq
      go_wp2_with fail
      go_region
      all_goals
        go_wp2_with fail
        exact bodyPost_ret (v:=.tuple #[.slice none 0 0,.iface 333 (.pointer (some (a 1)))]) (by simp[results,Tryz.results50,go_sem]) rfl (HPOST.out _ (some 1) [] (readE_out HOFF.out HIN.out).1 (readE_out HOFF.out HIN.out).2 _ (BS.nil _) (by repeat (first | exact Below.refl _ _ | apply pw_below_drewN | apply below_drew1)))
    | true=>
      have hq:=HQ1.out hin
      subst hq
      obtain⟨i0,i1⟩:=inD_true hin
      obtain⟨s,hs⟩ : ∃s,d.l[i.toNat]? = some s:=⟨_,List.getElem?_eq_getElem (by omega)⟩
      obtain⟨r,hr⟩ : ∃r,rs[i.toNat]? = some r:=⟨_,List.getElem?_eq_getElem (by have:=HD.out.len;omega)⟩
      have hsm:=HD.out.secs _ r s hr hs
      obtain⟨hd0,hd1⟩:=HD.out.sec hr
      have HRE:=Aside0.mk (readE_in HOFF.out hin hs)
      obtain⟨fv,lv⟩:=r
      obtain⟨hfast,⟨vs,hown,hls⟩,hlow⟩:=hsm
      simp only at hd0 hd1 hfast hown hls
      obtain⟨m,hm⟩ : ∃m,s.loose.length=m:=⟨_,rfl⟩
      have HMM:=Aside0.mk hm
      have HF:=Aside0.mk hfast
      have HO:=Aside0.mk hown
      have HLS:=Aside0.mk hls
      obtain⟨A',c',rfl,hA'⟩:=ow_slice hown
      rw[hm] at hd1 hA'
      clear hin hs hr hfast hown hls hlow hm i1
      by_cases hm0:m=0
      · have HL:=Aside0.mk (show s.last=s.fast by
          have:s.loose=[]:=List.eq_nil_of_length_eq_zero (by rw[HMM.out];exact hm0)
          unfold Sec.last;rw[this];rfl)
        subst hm0
        go_wp2_with fail
        refine (clone_bytes fv _ _ w HF.out (fun u hu=>by obtain⟨x,_,rfl⟩:=List.mem_map.1 hu;rfl)).mono ?_
        rintro e w1 ⟨v1,rfl,ho,hb⟩
        have HO1:=Aside0.mk ho
        have HB1:=Aside0.mk hb
        clear ho hb
        go_wp2_with fail
        exact bodyPost_ret (v:=.tuple #[v1,.nilIface]) (by simp[results,Tryz.results50,go_sem]) rfl (HPOST.out v1 none _ HRE.out.1 HRE.out.2 _ (by rw[HL.out];exact Rd.of_own HO1.out HF.out.2.1) HB1.out)
      · have hm1:0<m:=by omega
        obtain⟨lg,rfl⟩ : ∃lg,A'=some ⟨lg,0,none⟩:=by
          obtain⟨g',c2,he,_⟩:=HO.out.form (by have:=HMM.out;omega)
          injection he with he1
          exact⟨g',he1⟩
        obtain⟨b,hb⟩ : ∃b,s.loose[m - 1]? = some b:=⟨_,List.getElem?_eq_getElem (by have:=HMM.out;omega)⟩
        obtain⟨x,hx,hbx⟩:=HLS.out _ b hb
        have HBX:=Aside0.mk hbx
        have HL:=Aside0.mk (show s.last=b by unfold Sec.last;rw[List.getLast?_eq_getElem?,HMM.out,hb];rfl)
        have hcx:w.cell? ⟨lg,m - 1,none⟩=some x:=by
          have:=HO.out
          rw[HMM.out] at this
          rw[this.cellAt _ (by omega)];exact hx
        have hgt:decide ((m:Int)>0)=true:=decide_eq_true (by omega)
        have hmx:=HO.out
        clear hb hx hbx hA'
        have hmb:m≤9223372036854775807:=by
          rcases hmx.2 with ⟨h,h0⟩ | ⟨_,cc,_,h,_,_,h1,h2,_⟩
          · have:=HMM.out;omega
          · have:=HMM.out;unfold maxLen at h2;omega
        obtain⟨mm,hmm⟩ : ∃mm:Int,(m:Int)=mm:=⟨_,rfl⟩
        have hw:IntKind.i64.wrap (mm - 1)=mm - 1:=IntWalk.i64_in _ (by omega)
        have hnn:0≤mm - 1:=by omega
        have h1m:1≤mm:=by omega
        have h0m:0<mm:=by omega
        have hnm : ¬mm≤0:=by omega
        have hnm2 : ¬mm<1:=by omega
        have hnl:mm - 1<mm:=by omega
        have htn:(mm - 1).toNat=m - 1:=by omega
        have htn2:mm.toNat - 1=m - 1:=by omega
        rw[hmm] at hgt
        clear hmx
        go_wp2_with fail
        go_region_held3 (fun w'=>w'.cell? ⟨g,i.toNat*2+1,none⟩=some (.slice (some ⟨lg,0,none⟩) m c')∧w'.cell? ⟨lg,m - 1,none⟩=some x)
          (refine⟨?_,?_⟩<;>(first | go_keep | exact hk1 | exact hk2))
          (first | (go_at_call 95;refine (clone_bytes x _ _ _ (by exact HBX.out) (fun u hu=>by obtain⟨z,_,rfl⟩:=List.mem_map.1 hu;rfl)).mono ?_;rintro e w1 ⟨v1,rfl,ho,hb⟩;have hk1:w1.cell? ⟨g,i.toNat*2+1,none⟩=some (.slice (some ⟨lg,0,none⟩) m c'):=pw_cell_below hb hd1;have hk2:w1.cell? ⟨lg,m - 1,none⟩=some x:=pw_cell_below hb hcx))
        have HO1:=Aside0.mk ho
        have HB1:=Aside0.mk (show Below w.heap.size w w1 from⟨hb.os,hb.tape,hb.output,hb.size,hb.block⟩)
        clear ho hb hk1 hk2 hw hnn hnl htn htn2 h1m h0m hnm hnm2
        go_wp2_with fail
        exact bodyPost_ret (v:=.tuple #[v1,.nilIface]) (by simp[results,Tryz.results50,go_sem]) rfl (HPOST.out v1 none _ HRE.out.1 HRE.out.2 _ (by rw[HL.out];exact Rd.of_own HO1.out HBX.out.2.1) HB1.out)
end Go.Proofs.YtaplpeoikebedaaGreatDoor.Disk
