/- Joined texts: FwdG, First17, RefN, BackN, HeldT. No condition but what each says. -/
import Derived.Test.YtaplpeoikebedaaGreatDoorX31
import Derived.Test.YtaplpeoikebedaaGreatDoorX30
import Derived.Test.YtaplpeoikebedaaGreatDoorX36
import Derived.Test.YtaplpeoikebedaaGreatDoorX6
import Derived.Deep.RegionLaw
import Derived.Deep.DeepCutAuto
import Derived.Test.YtaplpeoikebedaaGreatDoorX35
import Derived.Test.YtaplpeoikebedaaGreatDoorX27
set_option maxHeartbeats 8000000
set_option maxRecDepth 100000
set_option linter.unusedVariables false
set_option linter.unusedSimpArgs false
namespace Go.Proofs.YtaplpeoikebedaaGreatDoor.FwdG
open Go.RowKit Go.Maps YtaplpeoikebedaaGreatDoorW.PrintWords YtaplpeoikebedaaGreatDoorW.PrintLast YtaplpeoikebedaaGreatDoorW.PrintMore
open See Mem Page Dirty SysD SysM StoreD StoreF TransT LockT LockU SpaceT WaitT FwdM FwdC FwdE FwdT
attribute [local go_sem] max2_imax min2_imin max_two min_two
end Go.Proofs.YtaplpeoikebedaaGreatDoor.FwdG
namespace Go.Proofs.YtaplpeoikebedaaGreatDoor.First17
open Go.RowKit Go.Maps YtaplpeoikebedaaGreatDoorW.PrintWords YtaplpeoikebedaaGreatDoorW.PrintLast YtaplpeoikebedaaGreatDoorW.PrintMore
open See Mem Page Disk DiskN RecD Pool3 Wal Fresh SysD SysM StoreD StoreF StoreI StoreJ RoomD TransT LockT LockU SpaceT WaitT FwdM FwdP FwdC FwdN FwdO FwdB FwdG
attribute [local go_sem] max2_imax min2_imin max_two min_two
theorem fw_up {n:Nat}{w w1 w2:World}{sp lp pp dp qp mp:Nat}{blocks frames:Int}{F:FS}(hb:Below n w w1)(h:FwM (Gr (fun k=>w.heap.size≤k) w1 w2) w2 sp lp pp dp qp mp blocks frames F):FwM (fun k=>w.heap.size≤k) w2 sp lp pp dp qp mp blocks frames F:=
  FwM.mono h fun k hk=>by
    rcases hk with hk | ⟨h1,_⟩
    · exact hk
    · exact Nat.le_trans hb.size h1
theorem out_all {w:World}{a:Nat→Addr}(h:SentsAll w a):OutAll (fun k=>w.heap.size≤k) a:=fun i hi=>by
  have l1:gl i<w.heap.size:=World.block_lt_of_cell? _ _ (h.cell i hi)
  obtain⟨c,t,hr⟩:=h.row i hi
  have l2:=heap_lt hr
  exact⟨by omega,by omega⟩
end Go.Proofs.YtaplpeoikebedaaGreatDoor.First17
namespace Go.Proofs.YtaplpeoikebedaaGreatDoor.RefN
open Go.RowKit YtaplpeoikebedaaGreatDoorW.PrintWords YtaplpeoikebedaaGreatDoorW.PrintLast YtaplpeoikebedaaGreatDoorW.PrintMore
open See Mem Clone Go.Proofs.YtaplpeoikebedaaGreatDoor.Cell Page PageB PageR Disk DiskN
attribute [local go_sem] max2_imax min2_imin max_two min_two
theorem info_vers:(Tryz.prog.info? 88).map (fun i=>(i.zero,i.size,i.bytes))=some (some (.slice none 0 0),1,24):=by kernel_rfl
theorem news_one (W:World)(b:Nat)(hb:W.heap.size=b)(u:Value)(e:Nat) : ∀j x,[u][j]? = some x→(W.alloc (.cells #[u] e)).cell? ((⟨b,0,none⟩:Addr).add j)=some x:=by
  subst hb
  intro j x hx
  exact World.news_of_block (heap_alloc_new W _) j x hx
theorem one_vers (b:Nat) : ∀u∈[Value.slice (some ⟨b,0,none⟩) 1 1],u.oneCell'=true:=by
  intro u hu
  simp at hu
  subst hu
  rfl
theorem len24v {n:Nat}(h:n≤100000):(n+1)*24≤140737488355328:=by omega
theorem rdisk_calls (n:Int)(w:World) :
    Calls Tryz.prog 80 #[.int .i64 n] w fun e w' => ∃p,e = .returned (.pointer (some ⟨p,0,none⟩))∧Below w.heap.size w w':=by
  obtain⟨i0,hi,hzz⟩:=Option.map_eq_some_iff.1 info_vers
  simp only[Prod.mk.injEq] at hzz
  obtain⟨hz0,hz1,hz2⟩:=hzz
  obtain⟨m,hm⟩ : ∃m,imin (imax n 1) 200=m:=⟨_,rfl⟩
  have hm1:1≤m∧m≤200:=by rw[←hm,imin_eq,imax_eq];omega
  obtain⟨m1,m2⟩:=hm1
  have HI0:=Aside0.mk (And.intro hi (And.intro hz0 (And.intro hz1 hz2)))
  clear hi hz0 hz1 hz2
  go_enter Tryz.func80,Tryz.ntmps80
  go_wp2_with fail
  go_loopg [4] (m.toNat+1) (fun kq v4 w' => ∃(i:Int) (sl:Value) (xs:List Value),v4 = .int .i64 i∧Aside0 (0≤i∧i≤m∧(kq:Int)=m+1 - i∧xs.length=i.toNat)∧Aside0 (w'.heap[w.heap.size]? = some (.cells #[sl,.int .i64 (-1),.bool false] 216 (0,0)))∧Aside0 (w'.ownsRow (w.heap.size+1) 88 1 sl xs.length xs)∧Aside0 (w.heap.size+1≤w'.heap.size)∧Aside0 (Below w.heap.size w w'))
  case atStart=>
    refine⟨0,.slice none 0 0,[],rfl,⟨by omega,by omega,by omega,rfl⟩,⟨?_⟩,⟨World.ownsRow_nil _ _ _ _⟩,⟨by simp⟩,⟨by repeat (first | exact Below.refl _ _ | apply below_drew1 | apply below_alloc)⟩⟩
    show (w.heap.push _)[w.heap.size]? = _
    exact Array.getElem?_push_size
  case round=>
    obtain⟨i,sl,xs,rfl,HI,HBX,HRW,HSZ0,HB⟩:=hrel
    have hi0:0≤i:=HI.out.1
    by_cases hlt:i<m
    · obtain⟨hi,hz0,hz1,hz2⟩:=HI0.out
      have hc0:wr.cell? ⟨w.heap.size,0,none⟩=some sl:=by simp[World.cell?,HBX.out]
      have hf0:wr.frozen? ⟨w.heap.size,0,none⟩=false:=by simp[World.frozen?,HBX.out]
      have hsz:=HSZ0.out
      have hsz1:w.heap.size<wr.heap.size:=hsz
      have hmk:=make256
      have hsz2:w.heap.size<wr.heap.size+1:=by omega
      have hsz3:w.heap.size<wr.heap.size+1+1:=by omega
      have hn5:xs.length≤100000:=by have:=HI.out;omega
      go_wp2_with fail
      go_region_law (first
        | (refine step_append_lies _ (by rfl) _ _ 214 (by rfl) (w.heap.size+1) 88 i0 (.slice none 0 0) 1 24 Tryz.underlying214 hi hz0 hz1 hz2 rfl (by decide) _ xs.length xs (by rfl) (by exact ow_below HRW.out (by repeat (first | exact Below.refl _ _ | apply below_drew1 | apply below_alloc))) ⟨wr.heap.size+2,0,none⟩ 1 1 [.slice (some ⟨wr.heap.size+1,0,none⟩) 1 1] (by rfl) rfl (by exact news_one _ _ (by simp) _ _) (by exact one_vers _) (by decide) (by exact len_ok hn5) (by exact len24v hn5) (by simp;omega) (wr.heap.size+3) (by simp) ?_;intro g2 cap2 w3 hown hgr hor hlt3;have hblk:w3.heap[w.heap.size]? = wr.heap[w.heap.size]? := grown_blk hgr (by exact (show Below wr.heap.size wr _ by repeat (first | exact Below.refl _ _ | apply below_drew1 | apply below_alloc)).block _ hsz1) (by simp;omega) (fun k hk=>by have:=(ow_block HRW.out hk).1;omega);have hs1:w3.cell? ⟨w.heap.size,0,none⟩=some sl:=(World.cell?_of_block (w:=wr) (a:=⟨w.heap.size,0,none⟩) hblk).trans hc0;have hs2:w3.frozen? ⟨w.heap.size,0,none⟩=false:=(World.frozen?_of_block (w:=wr) (a:=⟨w.heap.size,0,none⟩) hblk).trans hf0))
      all_goals
        have HSZ:=Aside0.mk (show wr.heap.size+2≤w3.heap.size by have:=hgr.size;simp at this;omega)
        have HO3:=Aside0.mk (show w3.ownsRow (w.heap.size+1) 88 1 (.slice (some ⟨g2,0,none⟩) (xs.length+1) cap2) (xs.length+1) (xs++[.slice (some ⟨wr.heap.size+1,0,none⟩) 1 1]) from hown)
        have HB3:=Aside0.mk (show Below w.heap.size w w3 from (HB.out.trans (Below.mono (show Below wr.heap.size wr _ by repeat (first | exact Below.refl _ _ | apply below_drew1 | apply below_alloc)) (by omega))).grown (w:=_) hgr (by simp;omega) (fun k hk=>by have:=(ow_block HRW.out hk).1;omega))
        have HBK:=Aside0.mk (hblk.trans HBX.out)
        clear hown hgr hor hlt3 hblk hi hz0 hz1 hz2 hmk hc0 hf0
        go_wp2_with fail
        go_roundg (gk - 1)
        case measure=>have:=HI.out;omega
        case rel=>
          refine⟨i+1,.slice (some ⟨g2,0,none⟩) (xs.length+1) cap2,xs++[.slice (some ⟨wr.heap.size+1,0,none⟩) 1 1],rfl,⟨by omega,by omega,by have:=HI.out;omega,by rw[List.length_append];have:=HI.out;simp;omega⟩,⟨?_⟩,⟨?_⟩,⟨?_⟩,⟨HB3.out.setCell (Nat.le_refl _) _⟩⟩
          · rw[heap_setCell_same _ _ _ _ _ _ HBK.out]
            simp
          · rw[List.length_append]
            exact ow_move HO3.out (fun k hk=>Below.heap_setCell _ _ _ _ (by have:=(ow_block HO3.out hk).1;show k≠w.heap.size;omega))
          · have:=HSZ.out
            simp[World.setCell]
            omega
    · go_wp2_with fail
      go_ret
      first
        | exact⟨⟨w.heap.size,rfl⟩,HB.out⟩
        | exact⟨w.heap.size,rfl,HB.out⟩
        | exact HB.out
theorem rlog_calls (dp:Nat)(f b s e:Int)(w:World) :
    Calls Tryz.prog 81 #[.pointer (some ⟨dp,0,none⟩),.int .i64 f,.int .i64 b,.int .i64 s,.int .i64 e] w fun q w'=>q = .returned (.pointer (some ⟨w.heap.size,0,none⟩))∧w'.heap[w.heap.size]? = some (.cells #[.pointer (some ⟨dp,0,none⟩),.int .i64 f,.int .i64 b,.int .i64 s,.int .i64 e,.slice none 0 0,.int .i64 s] 218 (0,0))∧Below w.heap.size w w':=by
  go_enter Tryz.func81,Tryz.ntmps81
  go_wp2_with fail
  go_ret
  first
    | exact⟨rfl,heap_alloc_new _ _,below_alloc (Below.refl _ _) _⟩
    | exact⟨heap_alloc_new _ _,below_alloc (Below.refl _ _) _⟩
    | exact below_alloc (Below.refl _ _) _
    | trace_state
theorem rpool_calls (dp lp:Nat)(n:Int)(w:World) :
    Calls Tryz.prog 84 #[.pointer (some ⟨dp,0,none⟩),.pointer (some ⟨lp,0,none⟩),.int .i64 n] w fun q w'=>q = .returned (.pointer (some ⟨w.heap.size,0,none⟩))∧Below w.heap.size w w':=by
  go_enter Tryz.func84,Tryz.ntmps84
  go_wp2_with fail
  go_ret
  first
    | exact⟨rfl,below_alloc (Below.refl _ _) _⟩
    | exact below_alloc (Below.refl _ _) _
    | trace_state
theorem rspace_calls (n:Int)(w:World) :
    Calls Tryz.prog 140 #[.int .i64 n] w fun q w' => ∃p,q = .returned (.pointer (some ⟨p,0,none⟩))∧Below w.heap.size w w':=by
  go_enter Tryz.func140,Tryz.ntmps140
  go_wp2_with fail
  go_ret
  first
    | exact⟨⟨_,rfl⟩,below_alloc (Below.refl _ _) _⟩
    | exact⟨_,rfl,below_alloc (Below.refl _ _) _⟩
    | exact below_alloc (Below.refl _ _) _
    | trace_state
theorem rlast_calls (p:Nat)(w:World)(c3:w.cell? ⟨p,3,none⟩=some (.int .i64 0))(c5:w.cell? ⟨p,5,none⟩=some (.slice none 0 0)) :
    Calls Tryz.prog 196 #[.pointer (some ⟨p,0,none⟩)] w fun e w'=>e = .returned (.int .i64 0)∧Below w.heap.size w w':=by
  go_enter Tryz.func196,Tryz.ntmps196
  go_wp2_with fail
  go_quiet (fail)
  go_wp2_with fail
  go_ret
  exact⟨by simp,by repeat (first | exact Below.refl _ _ | apply pw_below_drewN | apply below_drew1)⟩
theorem rroom_calls (p:Nat)(b:Int)(w:World)(hb:0≤b∧b≤100)(c2:w.cell? ⟨p,2,none⟩=some (.int .i64 b))(c3:w.cell? ⟨p,3,none⟩=some (.int .i64 0))(c5:w.cell? ⟨p,5,none⟩=some (.slice none 0 0)) :
    Calls Tryz.prog 141 #[.pointer (some ⟨p,0,none⟩)] w fun e w' => ∃r:Int,e = .returned (.int .i64 r)∧Below w.heap.size w w':=by
  have HL:=Aside0.mk (fun (V:World) (hb:Below w.heap.size w V)=>rlast_calls p V (pw_cell_below hb c3) (pw_cell_below hb c5))
  obtain⟨q1,q2⟩:=hb
  have hw1:IntKind.i64.wrap (6*b)=6*b:=IntWalk.i64_in _ (by omega)
  clear c3
  go_enter Tryz.func141,Tryz.ntmps141
  go_wp2_with fail
  go_region_held3 (fun w'=>w'.cell? ⟨p,2,none⟩=some (.int .i64 b)∧w'.cell? ⟨p,5,none⟩=some (.slice none 0 0))
    (refine⟨?_,?_⟩<;>(first | go_keep | exact hk1 | exact hk2))
    (first | (go_at_call 196;refine (HL.out _ (by repeat (first | exact Below.refl _ _ | apply below_drew1))).mono ?_;rintro e w1 ⟨rfl,hb⟩;have hk1:w1.cell? ⟨p,2,none⟩=some (.int .i64 b):=pw_cell_below hb c2;have hk2:w1.cell? ⟨p,5,none⟩=some (.slice none 0 0):=pw_cell_below hb c5))
  have HB:=Aside0.mk (show Below w.heap.size w w1 from⟨hb.os,hb.tape,hb.output,hb.size,hb.block⟩)
  clear hb
  go_wp2_with fail
  go_ret
  exact⟨_,rfl,HB.out⟩
theorem rseen_calls (p o:Nat)(w:World)(c:w.cell? ⟨p,o+1,none⟩=some (.int .i64 0))(f:w.frozen? ⟨p,o+1,none⟩=false) :
    Calls Tryz.prog 142 #[.pointer (some ⟨p,o,none⟩),.int .i64 0] w fun e w'=>(∃v,w'=w.setCell ⟨p,o+1,none⟩ v)∧∃v,e = .returned v:=by
  go_enter Tryz.func142,Tryz.ntmps142
  go_wp2_with fail
  go_end0
  first
    | exact⟨⟨_,rfl⟩,_,rfl⟩
    | exact⟨_,rfl⟩
    | trace_state
theorem cellx {w:World}{b:Nat}{cs:Array Value}{t:Nat}(h:w.heap[b]? = some (.cells cs t (0,0))){i:Nat}{v:Value}(hv:cs[i]? = some v):w.cell? ⟨b,i,none⟩=some v∧w.frozen? ⟨b,i,none⟩=false:=by
  refine⟨?_,?_⟩<;>simp[World.cell?,World.frozen?,h,hv]
theorem cfg4 {w:World}{b:Nat}{x0 x1 x2 x3:Value}(h:w.heap[b]? = some (.cells #[x0,x1,x2,x3] 31 (0,0))) :
    w.cell? ⟨b,0,none⟩=some x0∧w.cell? ⟨b,1,none⟩=some x1∧w.cell? ⟨b,2,none⟩=some x2∧w.cell? ⟨b,3,none⟩=some x3:=by
  refine⟨?_,?_,?_,?_⟩<;>simp[World.cell?,h]
end Go.Proofs.YtaplpeoikebedaaGreatDoor.RefN
namespace Go.Proofs.YtaplpeoikebedaaGreatDoor.BackN
open Go.RowKit Go.Maps YtaplpeoikebedaaGreatDoorW.PrintWords YtaplpeoikebedaaGreatDoorW.PrintLast YtaplpeoikebedaaGreatDoorW.PrintMore
open See Mem Page Disk DiskN RecD Pool2 Pool3 Wal Fresh SysD SysM StoreD StoreF StoreI StoreJ RoomD TransT LockT LockU SpaceT WaitT FwdM FwdP FwdC FwdN FwdO FwdB FwdG First17 RefN BackM BackV
attribute [local go_sem] max2_imax min2_imin max_two min_two
def newB (F:FS):BSt:=⟨F,fun _=>⟨0,[]⟩,0⟩
theorem bnew_calls (n0 sp lp pp dp qp mp:Nat)(blocks frames:Int)(F:FS)(w:World)(h:FwM (fun k=>n0≤k) w sp lp pp dp qp mp blocks frames F)(hn:n0≤w.heap.size) :
    Calls Tryz.prog 82 #[.pointer (some ⟨sp,0,none⟩)] w fun e w' => ∃bp bm,e = .returned (.pointer (some ⟨bp,0,none⟩))∧BkM (fun k=>n0≤k) w' bp bm sp lp pp dp qp mp blocks frames (newB F)∧Below w.heap.size w w':=by
  have HF:=Aside0.mk h
  clear h
  have hmm:=@run_makeMap Tryz.prog
  go_enter Tryz.func82,Tryz.ntmps82
  go_wp2_with fail
  have HB:=Aside0.mk (show Below w.heap.size w ((w.alloc (.map #[] 0)).alloc (.cells #[.pointer (some ⟨sp,0,none⟩),.map (some w.heap.size)] 61)) from by repeat (first | exact Below.refl _ _ | apply below_alloc))
  have HS:=Aside0.mk (show SvM ((w.alloc (.map #[] 0)).alloc (.cells #[.pointer (some ⟨sp,0,none⟩),.map (some w.heap.size)] 61)) w.heap.size 0 (fun _=>svV 0 (.slice none 0 0)) from
    ⟨0,.map [],(World.ownsMap_made w Tryz.prog 3 rS).alloc _,Int.le_refl _,fun s=>rfl⟩)
  have HX:=Aside0.mk (show ((w.alloc (.map #[] 0)).alloc (.cells #[.pointer (some ⟨sp,0,none⟩),.map (some w.heap.size)] 61)).heap[w.heap.size+1]? = some (.cells #[.pointer (some ⟨sp,0,none⟩),.map (some w.heap.size)] 61 (0,0)) from
    ChangeT.alloc_at _ _ (show (w.alloc _).heap.size=w.heap.size+1 from by show (w.heap.push _).size=_;rw[Array.size_push]))
  go_ret
  refine⟨w.heap.size+1,w.heap.size,rfl,⟨Cut (fun k=>n0≤k) w.heap.size,fun _=>.slice none 0 0,HX.out,(FwM.cut HF.out).below HB.out,HS.out,fun s=>IS.nil _ _,fun k hk=>⟨hk.1,by have:=hk.2;omega,by have:=hk.2;omega,fun s=>by simp[Value.ownBlock]⟩,fun s k hk=>by simp[Value.ownBlock] at hk,fun s t k hk=>by simp[Value.ownBlock] at hk,⟨by show n0≤_;omega,hn⟩⟩,HB.out⟩
theorem cfg_keep {w w':World}{b:Nat}{o:Obj}(h:w.heap[b]? = some o)(hb:Below w.heap.size w w'):w'.heap[b]? = some o:=(hb.block _ (heap_lt h)).trans h
end Go.Proofs.YtaplpeoikebedaaGreatDoor.BackN
namespace Go.Proofs.YtaplpeoikebedaaGreatDoor.HeldT
open Go.RowKit YtaplpeoikebedaaGreatDoorW.PrintWords YtaplpeoikebedaaGreatDoorW.PrintLast YtaplpeoikebedaaGreatDoorW.PrintMore
open See Mem Clone Go.Proofs.YtaplpeoikebedaaGreatDoor.Cell Page PageR Disk DiskN Pool1 Pool2 Rw Del Num SortI StoreD TransT LockT LockU
attribute [local go_sem] max2_imax min2_imin max_two min_two
theorem clos_held (s1 k1 m1:Int)(w:World) :
    Calls Tryz.prog 185 #[.agg #[.int .i64 s1,.int .i64 k1,.int .i64 m1]] w fun e w'=>e = .returned (.bool (m1 == 2))∧Below w.heap.size w w':=by
  go_enter Tryz.func185,Tryz.ntmps185
  go_wp2_with fail
  go_ret
  exact⟨rfl,by repeat (first | exact Below.refl _ _ | apply pw_below_drewN | apply below_drew1 | apply below_alloc)⟩
theorem heldL_succ {ls:List Lk}{i:Nat}{h:Lk}(hi:ls[i]? = some h):heldL (ls.take (i+1))=heldL (ls.take i)++(if h.mode == 2 then [h.key] else []):=by
  obtain⟨h1,h2⟩:=List.getElem?_eq_some_iff.1 hi
  unfold heldL
  rw[List.take_succ_eq_append_getElem h1,List.filter_append,List.map_append,h2]
  by_cases e:(h.mode == 2)=true
  · simp[e]
  · simp[e]
theorem heldL_len (ls:List Lk):(heldL ls).length≤ls.length:=by
  unfold heldL
  rw[List.length_map]
  exact List.length_filter_le _ _
theorem sortI_rise {xs:List Int}(h:xs.Nodup):(sortI xs).Pairwise (· < ·):=by
  have h1:(sortI xs).Pairwise (fun a b=>decide (a≤b)=true):=List.pairwise_mergeSort (fun a b c h1 h2=>by simp at *;omega) (fun a b=>by simp;omega) xs
  have h2:(sortI xs).Nodup:=(List.Perm.nodup_iff (List.mergeSort_perm xs _)).2 h
  exact (h1.and h2).imp fun hab=>by have:=hab.1;have:=hab.2;simp at *;omega
def NR (w:World)(v:Value)(xs:List Int):Prop:=Rd w 3 1 v xs.length (xs.map (.int .i64))
theorem NR.below {w w':World}{v:Value}{xs:List Int}(h:NR w v xs)(hb:Below w.heap.size w w'):NR w' v xs:=Rd.below h hb
theorem is_at {w:World}{b:Nat}{A:Option Addr}{n cap:Nat}{xs:List Int}(h:IS w b (.slice A n cap) xs){i:Nat}{x:Int}(hi:xs[i]? = some x) : ∃g,A=some ⟨g,0,none⟩∧n=xs.length∧w.cell? ⟨g,i,none⟩=some (.int .i64 x):=by
  have hlt:i<xs.length:=(List.getElem?_eq_some_iff.1 hi).1
  rcases h.2 with ⟨h1,h2⟩ | ⟨g',cap',cur,hv,hg,hh,hnc,hcm,hsz,htk⟩
  · omega
  · injection hv with h1 h2 h3
    subst h1 h2
    refine⟨g',rfl,rfl,?_⟩
    have hu:(xs.map (Value.int .i64))[i]? = some (.int .i64 x):=by rw[List.getElem?_map,hi];rfl
    rw[←htk,List.getElem?_take,if_pos (by omega)] at hu
    simp only[World.cell?,hh]
    simpa using hu
theorem compact_calls (b:Nat)(v:Value)(xs:List Int)(w:World)(h:IS w b v xs)(hp:xs.Pairwise (· < ·))(hl:xs.length≤100000) :
    Calls Tryz.prog 180 #[v] w fun e w'=>e = .returned v∧Below w.heap.size w w':=by
  obtain⟨A,cap,rfl,_⟩:=ow_slice h
  obtain⟨n,hn⟩ : ∃n,xs.length=n:=⟨_,rfl⟩
  have HN:=Aside0.mk hn
  have HS:=Aside0.mk h
  have HP:=Aside0.mk hp
  rw[hn] at hl ⊢
  clear h hp hn
  by_cases h2:(n:Int)<2
  · go_enter Tryz.func180,Tryz.ntmps180
    go_wp2_with fail
    go_ret
    exact⟨rfl,Below.refl _ _⟩
  · have HN2:=Aside0.mk (show 2≤n by omega)
    go_enter Tryz.func180,Tryz.ntmps180
    go_wp2_with fail
    go_loopg [3] n (fun kq v3 w' => ∃(k:Int),v3 = .int .i64 k∧Aside0 (1≤k∧k≤n∧(kq:Int)=n+1 - k)∧Aside0 (Below w.heap.size w w'))
    case atStart=>exact⟨1,rfl,⟨by omega,by have:=HN2.out;omega,by omega⟩,⟨Below.refl _ _⟩⟩
    case round=>
      obtain⟨k,rfl,HK,HB⟩:=hrel
      have hk1:1≤k:=HK.out.1
      by_cases hlt:k<n
      · obtain⟨j,hj⟩ : ∃j,k - 1=j:=⟨_,rfl⟩
        obtain⟨x,hx⟩ : ∃x,xs[k.toNat]? = some x:=⟨_,List.getElem?_eq_getElem (by have:=HN.out;omega)⟩
        obtain⟨y,hy⟩ : ∃y,xs[j.toNat]? = some y:=⟨_,List.getElem?_eq_getElem (by have:=HN.out;omega)⟩
        have hxy:(x == y)=false:=by
          have hx1:=List.getElem?_eq_some_iff.1 hx
          have hy1:=List.getElem?_eq_some_iff.1 hy
          obtain⟨hx2,hx3⟩:=hx1
          obtain⟨hy2,hy3⟩:=hy1
          have:=List.pairwise_iff_getElem.1 HP.out j.toNat k.toNat hy2 hx2 (by omega)
          rw[hx3,hy3] at this
          simp;omega
        obtain⟨g,rfl,hnn,hc1⟩:=is_at (HS.out.below HB.out) hx
        obtain⟨g',hg',_,hc2⟩:=is_at (HS.out.below HB.out) hy
        obtain rfl:g=g':=by simpa using hg'
        have hj0:0≤j:=by omega
        have hjn:j<n:=by omega
        have hw:IntKind.i64.wrap (k - 1)=j:=by rw[IntKind.wrap_i64];omega
        clear hg' hnn hx hy hj
        go_wp2_with fail
        go_quiet (fail)
        have HBQ:=Aside0.mk (pw_below_drewN HB.out nq)
        go_wp2_with fail
        go_roundg (gk - 1)
        case measure=>have:=HK.out;omega
        case rel=>exact⟨k+1,rfl,⟨by omega,by omega,by have:=HK.out;omega⟩,HBQ⟩
      · go_wp2_with fail
        go_ret
        exact⟨rfl,HB.out⟩
theorem clip_calls (b:Nat)(v:Value)(xs:List Int)(w:World)(h:IS w b v xs)(hl:xs.length≤100000) :
    Calls Tryz.prog 214 #[v] w fun e w' => ∃v',e = .returned v'∧NR w' v' xs∧Below w.heap.size w w':=by
  rcases h.2 with ⟨rfl,h0⟩ | ⟨g,cap,cur,rfl,hg,hh,hnc,hcm,hsz,htk⟩
  · have hx:xs=[]:=List.eq_nil_of_length_eq_zero h0
    subst hx
    go_enter Tryz.func214,Tryz.ntmps214
    go_wp2_with fail
    go_ret
    exact⟨_,rfl,Rd.nil _ _ _,Below.refl _ _⟩
  · obtain⟨n,hn⟩ : ∃n,xs.length=n:=⟨_,rfl⟩
    have HH:=Aside0.mk (show NR w (.slice (some ⟨g,0,none⟩) n n) xs from by
      subst hn
      exact⟨by simp,by omega,.inr ⟨g,0,_,cur,_,rfl,hh,Nat.le_refl _,by unfold maxLen;omega,by omega,by simpa using htk⟩⟩)
    rw[hn] at hnc hl ⊢
    clear hh hsz htk hcm hn h
    go_enter Tryz.func214,Tryz.ntmps214
    go_wp2_with fail
    go_ret
    exact⟨_,rfl,HH.out,Below.refl _ _⟩
theorem keys_calls (p o:Nat)(v:Value)(ls:List Lk)(w:World)(hr:LR w v ls)(hc:w.cell? ⟨p,o,none⟩=some v)(hd:(heldL ls).Nodup) :
    Calls Tryz.prog 184 #[.pointer (some ⟨p,o,none⟩),.func (.func 185) #[] #[]] w fun e w' => ∃v',e = .returned v'∧NR w' v' (sortI (heldL ls))∧Below w.heap.size w w':=by
  obtain⟨i0,hi,hzz⟩:=Option.map_eq_some_iff.1 info_int
  simp only[Prod.mk.injEq] at hzz
  obtain⟨hz0,hz1,hz2⟩:=hzz
  obtain⟨A,cap,rfl,_⟩:=ow_slice hr.1
  obtain⟨l,hl⟩ : ∃l,ls.length=l:=⟨_,rfl⟩
  have HL:=Aside0.mk hl
  have HF:=Aside0.mk hr
  have HD:=Aside0.mk hd
  have hl8:l≤100000:=by rw[←hl];exact hr.2
  rw[hl] at hc
  have HI0:=Aside0.mk (And.intro hi (And.intro hz0 (And.intro hz1 hz2)))
  clear hr hl hi hz0 hz1 hz2 hd
  go_enter Tryz.func184,Tryz.ntmps184
  go_wp2_with fail
  go_loopg [5,13] (l+1) (fun kq v5 v13 w' => ∃(i:Int) (sl:Value),v5=sl∧v13 = .int .i64 i∧Aside0 (0≤i∧i≤l∧(kq:Int)=l+1 - i)∧Aside0 (IS w' w.heap.size sl (heldL (ls.take i.toNat)))∧Aside0 (Below w.heap.size w w'))
  case atStart=>exact⟨0,_,rfl,rfl,⟨by omega,by omega,by omega⟩,⟨IS.nil _ _⟩,⟨Below.refl _ _⟩⟩
  case round=>
    obtain⟨i,sl,rfl,rfl,HI,HS,HB⟩:=hrel
    have hi0:0≤i:=HI.out.1
    by_cases hlt:i<l
    · obtain⟨f,hf⟩ : ∃f,ls[i.toNat]? = some f:=⟨_,List.getElem?_eq_getElem (by have:=HL.out;omega)⟩
      obtain⟨g,rfl,hll,hd0,hd1,hd2⟩:=(HF.out.below HB.out).at hf
      have HW:=Aside0.mk (heldL_succ hf)
      obtain⟨fs1,fk,fm⟩:=f
      simp only at hd0 hd1 hd2 HW
      clear hf hll
      go_wp2_with fail
      refine (clos_held fs1 fk fm _).mono ?_
      rintro e w1 ⟨rfl,hb⟩
      have hx1:w1.heap[wr.heap.size]? = some (.cells #[.int .i64 fs1,.int .i64 fk,.int .i64 fm] 265 (0,0)):=(hb.block wr.heap.size (by show _<(wr.heap.push _).size;rw[Array.size_push];omega)).trans (heap_alloc_new wr _)
      have hc1:w1.cell? ⟨wr.heap.size,1,none⟩=some (.int .i64 fk):=by simp[World.cell?,hx1]
      have HB1:=Aside0.mk (below_step HB.out (below_step (below_alloc (Below.refl wr.heap.size wr) _) hb))
      have HS1:=Aside0.mk (HS.out.below (below_step (below_alloc (Below.refl wr.heap.size wr) _) hb))
      clear hb hx1 hd0 hd1 hd2
      by_cases h3:fm=2
      · subst h3
        have HIN:=Aside0.mk (show heldL (ls.take (i.toNat+1))=heldL (ls.take i.toNat)++[fk] from HW.out)
        rw[show ((2:Int) == 2)=true from by decide]
        obtain⟨hi,hz0,hz1,hz2⟩:=HI0.out
        obtain⟨n,hn⟩ : ∃n,(heldL (ls.take i.toNat)).length=n:=⟨_,rfl⟩
        have HLT:=Aside0.mk hn
        have hn5:n≤100000:=by rw[←hn];have:=heldL_len (ls.take i.toNat);rw[List.length_take] at this;omega
        clear hn
        go_wp2_with (at_builtin;refine wpList_append_lies _ (by rfl) _ _ 22 (by rfl) w.heap.size 3 i0 (.int .i64 0) 1 8 Tryz.underlying22 hi hz0 hz1 hz2 rfl (by decide) _ n ((heldL (ls.take i.toNat)).map (.int .i64)) (by rfl) ?own ⟨w1.heap.size,0,none⟩ 1 1 [.int .i64 fk] (by rfl) rfl ?news (one_int _) (by decide) (len_ok hn5) ?by8 ?base (w1.heap.size+1) ?hh ?_)
        case own=>have:=HS1.out;unfold IS at this;rw[HLT.out] at this;exact ow_below this (by repeat (first | exact Below.refl _ _ | apply below_drew1 | apply below_alloc))
        case news=>
          intro j u hj
          match j,hj with
          | 0,hj=>simp at hj;subst hj;simp[Addr.add]
        case by8=>omega
        case base=>have:=HB1.out.size;simp;omega
        case hh=>simp
        intro g2 cap2 w3 hown hgr hor hlt3
        have HO3:=Aside0.mk (show IS w3 w.heap.size (.slice (some ⟨g2,0,none⟩) (n+1) cap2) (heldL (ls.take (i.toNat+1))) from by
          unfold IS
          rw[HIN.out,List.length_append,HLT.out,List.map_append]
          exact hown)
        have HB3:=Aside0.mk (show Below w.heap.size w w3 from (HB1.out.trans (Below.mono (show Below w1.heap.size w1 (w1.alloc (.cells #[.int .i64 fk] 3)) by repeat (first | exact Below.refl _ _ | apply below_drew1 | apply below_alloc)) HB1.out.size)).grown (w:=_) hgr (by have:=HB1.out.size;simp;omega) (fun k hk=>by have h:=HS1.out;exact (ow_block h hk).1))
        clear hown hgr hor hlt3 hi hz0 hz1 hz2
        go_wp2_with fail
        go_roundg (gk - 1)
        case measure=>have:=HI.out;omega
        case rel=>exact⟨i+1,_,rfl,rfl,⟨by omega,by omega,by have:=HI.out;omega⟩,⟨by rw[show (i+1).toNat=i.toNat+1 from by omega];exact HO3.out⟩,HB3⟩
      · have q3:(fm == 2)=false:=by simpa using h3
        have HIN:=Aside0.mk (show heldL (ls.take (i.toNat+1))=heldL (ls.take i.toNat) from by rw[HW.out,q3];simp)
        rw[q3]
        go_wp2_with fail
        go_roundg (gk - 1)
        case measure=>have:=HI.out;omega
        case rel=>exact⟨i+1,_,rfl,rfl,⟨by omega,by omega,by have:=HI.out;omega⟩,⟨by rw[show (i+1).toNat=i.toNat+1 from by omega,HIN.out];exact HS1.out⟩,HB1⟩
    · have HE:=Aside0.mk (show ls.take i.toNat=ls by rw[show i.toNat=ls.length from by have:=HI.out;have:=HL.out;omega];exact List.take_length)
      have HS2:=Aside0.mk (show IS wr w.heap.size u5 (heldL ls) from by have h:=HS.out;rw[HE.out] at h;exact h)
      obtain⟨A9,c9,hv9,_⟩:=ow_slice HS2.out
      rw[hv9] at HS2
      obtain⟨q,hq⟩ : ∃q,heldL ls=q:=⟨_,rfl⟩
      have HQ:=Aside0.mk hq
      rw[hq] at HS2 hv9
      have HRS:=Aside0.mk (sortI_rise (by rw[←hq];exact HD.out:q.Nodup))
      obtain⟨n,hn⟩ : ∃n,q.length=n:=⟨_,rfl⟩
      have hn5:n≤100000:=by rw[←hn,←hq];have:=heldL_len ls;have:=HL.out;omega
      have HSL:=Aside0.mk (sortI_len q)
      rw[hn] at HS2 hv9 HSL
      have HN:=Aside0.mk hn
      clear hq hn
      subst hv9
      go_wp2_with fail
      refine (sort_is w.heap.size (.slice A9 n c9) q _ HS2.out (by have:=HN.out;omega)).mono ?_
      rintro e w2 ⟨rfl,h2,hg2⟩
      have HB2:=Aside0.mk (show Below w.heap.size w w2 from HB.out.grown hg2 HB.out.size (fun k hk=>(ow_block HS2.out hk).1))
      have HI2:=Aside0.mk h2
      clear h2 hg2
      go_wp2_with fail
      refine (compact_calls w.heap.size (.slice A9 n c9) (sortI q) _ HI2.out HRS.out (by rw[HSL.out];exact hn5)).mono ?_
      rintro e w3 ⟨rfl,hb3⟩
      have HB3:=Aside0.mk (below_step HB2.out hb3)
      have HI3:=Aside0.mk (HI2.out.below hb3)
      clear hb3
      go_wp2_with fail
      refine (clip_calls w.heap.size (.slice A9 n c9) (sortI q) _ HI3.out (by rw[HSL.out];exact hn5)).mono ?_
      rintro e w4 ⟨v4,rfl,hr4,hb4⟩
      obtain⟨A4,c4,rfl,_⟩:=hr4.form
      have HR4:=Aside0.mk hr4
      have HB4:=Aside0.mk (below_step HB3.out hb4)
      clear hr4 hb4
      go_wp2_with fail
      go_ret
      exact⟨_,rfl,by rw[HQ.out];exact HR4.out,HB4.out⟩
theorem held_calls (p o:Nat)(v:Value)(ls:List Lk)(w:World)(hr:LR w v ls)(hc:w.cell? ⟨p,o,none⟩=some v)(hd:(heldL ls).Nodup) :
    Calls Tryz.prog 127 #[.pointer (some ⟨p,o,none⟩)] w fun e w' => ∃v',e = .returned v'∧NR w' v' (sortI (heldL ls))∧Below w.heap.size w w':=by
  have HC:=Aside0.mk (keys_calls p o v ls w hr hc hd)
  clear hr hc hd
  go_enter Tryz.func127,Tryz.ntmps127
  go_wp2_with fail
  refine HC.out.mono ?_
  rintro e w4 ⟨v4,rfl,hr4,hb4⟩
  obtain⟨A4,c4,rfl,_⟩:=hr4.form
  have HR4:=Aside0.mk hr4
  have HB4:=Aside0.mk hb4
  clear hr4 hb4
  go_wp2_with fail
  go_ret
  exact⟨_,rfl,HR4.out,HB4.out⟩
end Go.Proofs.YtaplpeoikebedaaGreatDoor.HeldT
