/- Joined texts: Disk, DiskN. No condition but what each says. -/
import Derived.Test.YtaplpeoikebedaaGreatDoorX5
import Derived.Deep.RegionLaw
set_option maxHeartbeats 8000000
set_option maxRecDepth 100000
set_option linter.unusedVariables false
set_option linter.unusedSimpArgs false
namespace Go.Proofs.YtaplpeoikebedaaGreatDoor.Disk
open Go.RowKit YtaplpeoikebedaaGreatDoorW.PrintWords YtaplpeoikebedaaGreatDoorW.PrintLast YtaplpeoikebedaaGreatDoorW.PrintMore
open See Mem Clone Go.Proofs.YtaplpeoikebedaaGreatDoor.Cell Page PageB PageR
attribute [local go_sem] max2_imax min2_imin max_two min_two
structure Sec where
  fast:List Int
  loose:List (List Int)
structure Dsk where
  l:List Sec
  off:Bool
  fuse:Int
def SecB (b:List Int):Prop:=b.length=256∧IsB b
def Sec.ok (s:Sec):Prop:=SecB s.fast∧∀b∈s.loose,SecB b
def Sec.last (s:Sec):List Int:=s.loose.getLast?.getD s.fast
theorem Sec.last_ok {s:Sec}(h:s.ok):SecB s.last:=by
  unfold Sec.last
  cases hl:s.loose.getLast? with
  | none=>exact h.1
  | some b=>exact h.2 b (List.mem_of_getLast? hl)
structure SecM (M:Nat→Prop) (w:World) (u v:Value) (s:Sec):Prop where
  fast:BS w u s.fast
  loose : ∃vs:List Value,w.ownsRow 0 93 1 v s.loose.length vs∧∀(i:Nat) (b:List Int),s.loose[i]? = some b→∃x:Value,vs[i]? = some x∧BS w x b
  low : ∀k,v.ownBlock=some k→M k
def secCells (rs:List (Value×Value)):List Value:=rs.flatMap fun r=>[r.1,r.2]
theorem secCells_at : ∀(rs:List (Value×Value)) (i:Nat) (r:Value×Value),rs[i]? = some r→(secCells rs)[i*2]? = some r.1∧(secCells rs)[i*2+1]? = some r.2
  | [],i,t,h=>by simp at h
  | s :: ps,0,t,h=>by
    simp at h;subst h
    exact⟨by simp[secCells,List.flatMap_cons],by simp[secCells,List.flatMap_cons]⟩
  | s :: ps,i+1,t,h=>by
    have:=secCells_at ps i t (by simpa using h)
    have e:secCells (s :: ps)=[s.1,s.2]++secCells ps:=by simp[secCells,List.flatMap_cons]
    rw[e,List.getElem?_append_right (by simp;omega),List.getElem?_append_right (by simp;omega)]
    simp only[List.length_cons,List.length_nil]
    rw[show (i+1)*2 - (0+1+1)=i*2 from by omega,show (i+1)*2+1 - (0+1+1)=i*2+1 from by omega]
    exact this
theorem secCells_append (a b:List (Value×Value)):secCells (a++b)=secCells a++secCells b:=by unfold secCells;rw[List.flatMap_append]
def dskCells (g cap:Nat)(d:Dsk):Array Value:=#[.slice (some ⟨g,0,none⟩) d.l.length cap,.bool d.off,.int .i64 d.fuse]
structure DskAt (M:Nat→Prop) (w:World) (p g cap:Nat) (rs:List (Value×Value)) (d:Dsk):Prop where
  box:w.heap[p]? = some (.cells (dskCells g cap d) 173 (0,0))
  row:w.ownsRow 0 175 2 (.slice (some ⟨g,0,none⟩) d.l.length cap) d.l.length (secCells rs)
  len:rs.length=d.l.length
  mp:M p
  mg:M g
  secs : ∀(i:Nat) r s,rs[i]? = some r→d.l[i]? = some s→SecM M w r.1 r.2 s
  apart : ∀(i j:Nat) r q k,rs[i]? = some r→rs[j]? = some q→r.2.ownBlock=some k→q.2.ownBlock=some k→i=j
  ok : ∀s∈d.l,s.ok
  few:d.l.length≤200
def DskM (M:Nat→Prop)(w:World)(p:Nat)(d:Dsk):Prop := ∃g cap rs,DskAt M w p g cap rs d
def dTags:List Nat:=[173,175,93,5]
def dTurn:List Nat:=[173,175,93]
theorem SecM.move {M:Nat→Prop}{w w':World}{u v:Value}{s:Sec}(h:SecM M w u v s)(hb : ∀k,k<w.heap.size→tag w k∈dTags→w'.heap[k]? = w.heap[k]?):SecM M w' u v s:=by
  have hr : ∀x b,BS w x b→BS w' x b:=fun x b hx=>Rd.move hx (fun k hk=>by
    obtain⟨c,fz,hc⟩:=Rd.block hx hk
    exact hb k (heap_lt hc) (by rw[tag_of hc];decide))
  obtain⟨vs,h1,h2⟩:=h.loose
  refine⟨hr _ _ h.fast,⟨vs,ow_move h1 (fun k hk=>by obtain⟨_,c,hc⟩:=ow_block h1 hk;exact hb k (heap_lt hc) (by rw[tag_of hc];decide)),fun i b hi => ?_⟩,h.low⟩
  obtain⟨x,hx,hx2⟩:=h2 i b hi
  exact⟨x,hx,hr _ _ hx2⟩
theorem SecM.mono {M M':Nat→Prop}{w:World}{u v:Value}{s:Sec}(h:SecM M w u v s)(hm : ∀k,M k→M' k):SecM M' w u v s:=⟨h.fast,h.loose,fun k hk=>hm k (h.low k hk)⟩
theorem DskAt.move {M:Nat→Prop}{w w':World}{p g cap:Nat}{rs:List (Value×Value)}{d:Dsk}(h:DskAt M w p g cap rs d)(hb : ∀k,k<w.heap.size→tag w k∈dTags→w'.heap[k]? = w.heap[k]?):DskAt M w' p g cap rs d:=
  ⟨(hb p (heap_lt h.box) (by rw[tag_of h.box];decide)).trans h.box,
   ow_move h.row (fun k hk=>by obtain⟨_,c,hc⟩:=ow_block h.row hk;exact hb k (heap_lt hc) (by rw[tag_of hc];decide)),
   h.len,h.mp,h.mg,fun i r s hi hs=>(h.secs i r s hi hs).move hb,h.apart,h.ok,h.few⟩
theorem DskAt.mono {M M':Nat→Prop}{w:World}{p g cap:Nat}{rs:List (Value×Value)}{d:Dsk}(h:DskAt M w p g cap rs d)(hm : ∀k,M k→M' k):DskAt M' w p g cap rs d:=
  ⟨h.box,h.row,h.len,hm _ h.mp,hm _ h.mg,fun i r s hi hs=>(h.secs i r s hi hs).mono hm,h.apart,h.ok,h.few⟩
theorem DskM.move {M:Nat→Prop}{w w':World}{p:Nat}{d:Dsk}(h:DskM M w p d)(hb : ∀k,k<w.heap.size→tag w k∈dTags→w'.heap[k]? = w.heap[k]?):DskM M w' p d:=by
  obtain⟨g,cap,rs,h⟩:=h;exact⟨g,cap,rs,h.move hb⟩
theorem DskM.mono {M M':Nat→Prop}{w:World}{p:Nat}{d:Dsk}(h:DskM M w p d)(hm : ∀k,M k→M' k):DskM M' w p d:=by
  obtain⟨g,cap,rs,h⟩:=h;exact⟨g,cap,rs,h.mono hm⟩
theorem DskM.below {M:Nat→Prop}{w w':World}{p:Nat}{d:Dsk}(h:DskM M w p d)(hb:Below w.heap.size w w'):DskM M w' p d:=h.move fun k hk _=>hb.block k hk
theorem DskM.frm {T:List Nat}{M M':Nat→Prop}{w w':World}{p:Nat}{d:Dsk}(h:DskM M w p d)(hf:Frm T M' w w')(hT : ∀t∈dTags,t∉T):DskM M w' p d:=
  h.move fun k hk ht=>hf.block k hk fun _=>hT _ ht
theorem DskAt.cells {M:Nat→Prop}{w:World}{p g cap:Nat}{rs:List (Value×Value)}{d:Dsk}(h:DskAt M w p g cap rs d) :
    w.cell? ⟨p,0,none⟩=some (.slice (some ⟨g,0,none⟩) d.l.length cap)∧w.cell? ⟨p,1,none⟩=some (.bool d.off)∧w.cell? ⟨p,2,none⟩=some (.int .i64 d.fuse):=by
  refine⟨?_,?_,?_⟩<;>simp[World.cell?,h.box,dskCells]
theorem DskAt.sec {M:Nat→Prop}{w:World}{p g cap:Nat}{rs:List (Value×Value)}{d:Dsk}(h:DskAt M w p g cap rs d){i:Nat}{r:Value×Value}(hi:rs[i]? = some r) :
    w.cell? ⟨g,i*2,none⟩=some r.1∧w.cell? ⟨g,i*2+1,none⟩=some r.2:=by
  have hl:=h.row
  have hlt:i<rs.length:=(List.getElem?_eq_some_iff.1 hi).1
  obtain⟨c0,c1⟩:=secCells_at rs i r hi
  rw[hl.cellAt _ (by have:=h.len;omega),hl.cellAt _ (by have:=h.len;omega)]
  exact⟨c0,c1⟩
theorem at_in (p g n cap:Nat)(i:Int)(w:World)(hc:w.cell? ⟨p,0,none⟩=some (.slice (some ⟨g,0,none⟩) n cap))(h0:0≤i)(h1:i<n) :
    Calls Tryz.prog 102 #[.pointer (some ⟨p,0,none⟩),.int .i64 i] w fun e w'=>e = .returned (.pointer (some ⟨g,i.toNat*2,none⟩))∧w=w':=by
  go_enter Tryz.func102,Tryz.ntmps102
  go_wp2
  go_ret
  simp
theorem at_out (p g n cap:Nat)(i:Int)(w:World)(hc:w.cell? ⟨p,0,none⟩=some (.slice (some ⟨g,0,none⟩) n cap))(h:i<0∨(n:Int)≤i) :
    Calls Tryz.prog 102 #[.pointer (some ⟨p,0,none⟩),.int .i64 i] w fun e w'=>e = .returned (.pointer none)∧w=w':=by
  rcases (show i<0∨(0≤i∧(n:Int)≤i) by omega) with h | ⟨h,h2⟩
  · go_enter Tryz.func102,Tryz.ntmps102
    go_wp2
    go_ret
    simp
  · go_enter Tryz.func102,Tryz.ntmps102
    go_wp2
    go_ret
    simp
def inD (d:Dsk)(i:Int):Bool:=decide (0≤i) && decide (i<d.l.length)
def readV (d:Dsk)(i:Int):List Int:=if d.off then [] else if inD d i then (d.l[i.toNat]?.map Sec.last).getD [] else []
def readE (d:Dsk)(i:Int):Option Nat:=if d.off then some 0 else if inD d i then none else some 1
def ReadDPost (a:Nat→Addr)(d:Dsk)(i:Int)(w:World)(e:Ending)(w':World):Prop:=
  ∃v,e = .returned (.tuple #[v,errv a (readE d i)])∧BS w' v (readV d i)∧Below w.heap.size w w'
theorem readE_off {d:Dsk}{i:Int}(h:d.off=true):readE d i=some 0∧readV d i=[]:=by unfold readE readV;simp[h]
theorem readE_out {d:Dsk}{i:Int}(h:d.off=false)(hi:inD d i=false):readE d i=some 1∧readV d i=[]:=by unfold readE readV;simp[h,hi]
theorem readE_in {d:Dsk}{i:Int}{s:Sec}(h:d.off=false)(hi:inD d i=true)(hs:d.l[i.toNat]? = some s):readE d i=none∧readV d i=s.last:=by unfold readE readV;simp[h,hi,hs]
theorem inD_true {d:Dsk}{i:Int}(h:inD d i=true):0≤i∧i<d.l.length:=by unfold inD at h;simpa using h
theorem inD_false {d:Dsk}{i:Int}(h:inD d i=false):i<0∨(d.l.length:Int)≤i:=by
  unfold inD at h;simp at h;omega
theorem read_disk (a:Nat→Addr)(M:Nat→Prop)(p:Nat)(d:Dsk)(i:Int)(w:World)(hs:Sents w a)(hd:DskM M w p d) :
    Calls Tryz.prog 50 #[.pointer (some ⟨p,0,none⟩),.int .i64 i] w (ReadDPost a d i w):=by
  obtain⟨g,cap,rs,hd⟩:=hd
  obtain⟨hc0,hc1,hc2⟩:=hd.cells
  have HD:=Aside0.mk hd
  have HS:=Aside0.mk hs
  have hg0:w.cell? ⟨8,0,none⟩=some (.iface 333 (.pointer (some (a 0)))):=hs.cell 0 (by decide)
  have hg1:w.cell? ⟨6,0,none⟩=some (.iface 333 (.pointer (some (a 1)))):=hs.cell 1 (by decide)
  have hpost : ∀v o e,readE d i=o→readV d i=e→∀w',BS w' v e→Below w.heap.size w w'→ReadDPost a d i w (.returned (.tuple #[v,errv a o])) w':=fun v o e h1 h2 w' hb hB=>⟨v,by rw[h1],by rw[h2];exact hb,hB⟩
  have HPOST:=Aside0.mk hpost
  obtain⟨off,hoff⟩ : ∃o,d.off=o:=⟨_,rfl⟩
  have HOFF:=Aside0.mk hoff
  rw[hoff] at hc1
  clear hd hs hpost hoff hc2
  have hat:Aside0 (∃q:Option Addr,(inD d i=true→q=some ⟨g,i.toNat*2,none⟩)∧(inD d i=false→q=none)∧Calls Tryz.prog 102 #[.pointer (some ⟨p,0,none⟩),.int .i64 i] w fun e w'=>e = .returned (.pointer q)∧w=w'):=by
    refine⟨?_⟩
    cases hin:inD d i with
    | true=>exact⟨_,fun _=>rfl,fun h=>(by cases h),at_in p g _ cap i w hc0 (inD_true hin).1 (inD_true hin).2⟩
    | false=>exact⟨none,fun h=>(by cases h),fun _=>rfl,at_out p g _ cap i w hc0 (inD_false hin)⟩
  clear hc0
  obtain⟨q,hq1,hq2,hcall⟩:=hat.out
  have HQ1:=Aside0.mk hq1
  have HQ2:=Aside0.mk hq2
  have HCALL:=Aside0.mk hcall
  clear hq1 hq2 hcall hat
  go_enter Tryz.func50,Tryz.ntmps50
  go_wp2_with fail
  refine HCALL.out.mono ?_
  rintro e w' ⟨rfl,rfl⟩
  cases off with
  | true=>
    go_wp2_with fail
    go_region
    all_goals
      go_wp2_with fail
      exact bodyPost_ret (v:=.tuple #[.slice none 0 0,.iface 333 (.pointer (some (a 0)))]) (by simp[results,Tryz.results50,go_sem]) rfl (HPOST.out _ (some 0) [] (readE_off HOFF.out).1 (readE_off HOFF.out).2 _ (BS.nil _) (by repeat (first | exact Below.refl _ _ | apply pw_below_drewN | apply below_drew1)))
  | false=>
    cases hin:inD d i with
    | false=>
      have hq:=HQ2.out hin
      have HIN:=Aside0.mk hin
      clear hin
      subst hq
      go_wp2_with fail
      go_region
      all_goals
        go_wp2_with fail
        exact bodyPost_ret (v:=.tuple #[.slice none 0 0,.iface 333 (.pointer (some (a 1)))]) (by simp[results,Tryz.results50,go_sem]) rfl (HPOST.out _ (some 1) [] (readE_out HOFF.out HIN.out).1 (readE_out HOFF.out HIN.out).2 _ (BS.nil _) (by repeat (first | exact Below.refl _ _ | apply pw_below_drewN | apply below_drew1)))
    | true=>
      have hq:=HQ1.out hin
      subst hq
      obtain⟨i0,i1⟩:=inD_true hin
      obtain⟨s,hs⟩ : ∃s,d.l[i.toNat]? = some s:=⟨_,List.getElem?_eq_getElem (by omega)⟩
      obtain⟨r,hr⟩ : ∃r,rs[i.toNat]? = some r:=⟨_,List.getElem?_eq_getElem (by have:=HD.out.len;omega)⟩
      have hsm:=HD.out.secs _ r s hr hs
      obtain⟨hd0,hd1⟩:=HD.out.sec hr
      have HRE:=Aside0.mk (readE_in HOFF.out hin hs)
      obtain⟨fv,lv⟩:=r
      obtain⟨hfast,⟨vs,hown,hls⟩,hlow⟩:=hsm
      simp only at hd0 hd1 hfast hown hls
      obtain⟨m,hm⟩ : ∃m,s.loose.length=m:=⟨_,rfl⟩
      have HMM:=Aside0.mk hm
      have HF:=Aside0.mk hfast
      have HO:=Aside0.mk hown
      have HLS:=Aside0.mk hls
      obtain⟨A',c',rfl,hA'⟩:=ow_slice hown
      rw[hm] at hd1 hA'
      clear hin hs hr hfast hown hls hlow hm i1
      by_cases hm0:m=0
      · have HL:=Aside0.mk (show s.last=s.fast by
          have:s.loose=[]:=List.eq_nil_of_length_eq_zero (by rw[HMM.out];exact hm0)
          unfold Sec.last;rw[this];rfl)
        subst hm0
        go_wp2_with fail
        refine (clone_bytes fv _ _ w HF.out (fun u hu=>by obtain⟨x,_,rfl⟩:=List.mem_map.1 hu;rfl)).mono ?_
        rintro e w1 ⟨v1,rfl,ho,hb⟩
        have HO1:=Aside0.mk ho
        have HB1:=Aside0.mk hb
        clear ho hb
        go_wp2_with fail
        exact bodyPost_ret (v:=.tuple #[v1,.nilIface]) (by simp[results,Tryz.results50,go_sem]) rfl (HPOST.out v1 none _ HRE.out.1 HRE.out.2 _ (by rw[HL.out];exact Rd.of_own HO1.out HF.out.2.1) HB1.out)
      · have hm1:0<m:=by omega
        obtain⟨lg,rfl⟩ : ∃lg,A'=some ⟨lg,0,none⟩:=by
          obtain⟨g',c2,he,_⟩:=HO.out.form (by have:=HMM.out;omega)
          injection he with he1
          exact⟨g',he1⟩
        obtain⟨b,hb⟩ : ∃b,s.loose[m - 1]? = some b:=⟨_,List.getElem?_eq_getElem (by have:=HMM.out;omega)⟩
        obtain⟨x,hx,hbx⟩:=HLS.out _ b hb
        have HBX:=Aside0.mk hbx
        have HL:=Aside0.mk (show s.last=b by unfold Sec.last;rw[List.getLast?_eq_getElem?,HMM.out,hb];rfl)
        have hcx:w.cell? ⟨lg,m - 1,none⟩=some x:=by
          have:=HO.out
          rw[HMM.out] at this
          rw[this.cellAt _ (by omega)];exact hx
        have hgt:decide ((m:Int)>0)=true:=decide_eq_true (by omega)
        have hmx:=HO.out
        clear hb hx hbx hA'
        have hmb:m≤9223372036854775807:=by
          rcases hmx.2 with ⟨h,h0⟩ | ⟨_,cc,_,h,_,_,h1,h2,_⟩
          · have:=HMM.out;omega
          · have:=HMM.out;unfold maxLen at h2;omega
        obtain⟨mm,hmm⟩ : ∃mm:Int,(m:Int)=mm:=⟨_,rfl⟩
        have hw:IntKind.i64.wrap (mm - 1)=mm - 1:=IntWalk.i64_in _ (by omega)
        have hnn:0≤mm - 1:=by omega
        have h1m:1≤mm:=by omega
        have h0m:0<mm:=by omega
        have hnm : ¬mm≤0:=by omega
        have hnm2 : ¬mm<1:=by omega
        have hnl:mm - 1<mm:=by omega
        have htn:(mm - 1).toNat=m - 1:=by omega
        have htn2:mm.toNat - 1=m - 1:=by omega
        rw[hmm] at hgt
        clear hmx
        go_wp2_with fail
        go_region_held3 (fun w'=>w'.cell? ⟨g,i.toNat*2+1,none⟩=some (.slice (some ⟨lg,0,none⟩) m c')∧w'.cell? ⟨lg,m - 1,none⟩=some x)
          (refine⟨?_,?_⟩<;>(first | go_keep | exact hk1 | exact hk2))
          (first | (go_at_call 95;refine (clone_bytes x _ _ _ (by exact HBX.out) (fun u hu=>by obtain⟨z,_,rfl⟩:=List.mem_map.1 hu;rfl)).mono ?_;rintro e w1 ⟨v1,rfl,ho,hb⟩;have hk1:w1.cell? ⟨g,i.toNat*2+1,none⟩=some (.slice (some ⟨lg,0,none⟩) m c'):=pw_cell_below hb hd1;have hk2:w1.cell? ⟨lg,m - 1,none⟩=some x:=pw_cell_below hb hcx))
        have HO1:=Aside0.mk ho
        have HB1:=Aside0.mk (show Below w.heap.size w w1 from⟨hb.os,hb.tape,hb.output,hb.size,hb.block⟩)
        clear ho hb hk1 hk2 hw hnn hnl htn htn2 h1m h0m hnm hnm2
        go_wp2_with fail
        exact bodyPost_ret (v:=.tuple #[v1,.nilIface]) (by simp[results,Tryz.results50,go_sem]) rfl (HPOST.out v1 none _ HRE.out.1 HRE.out.2 _ (by rw[HL.out];exact Rd.of_own HO1.out HBX.out.2.1) HB1.out)
end Go.Proofs.YtaplpeoikebedaaGreatDoor.Disk
namespace Go.Proofs.YtaplpeoikebedaaGreatDoor.DiskN
open Go.RowKit YtaplpeoikebedaaGreatDoorW.PrintWords YtaplpeoikebedaaGreatDoorW.PrintLast YtaplpeoikebedaaGreatDoorW.PrintMore
open See Mem Clone Go.Proofs.YtaplpeoikebedaaGreatDoor.Cell Page PageB PageR Disk
attribute [local go_sem] max2_imax min2_imin max_two min_two
theorem info_sector:(Tryz.prog.info? 175).map (fun i=>(i.zero,i.size,i.bytes))=some (some (.agg #[.slice none 0 0,.slice none 0 0]),2,48):=by kernel_rfl
def zsec:Sec:=⟨List.replicate 256 0,[]⟩
def zdisk (n:Nat):Dsk:=⟨List.replicate n zsec,false,-1⟩
def secsN (n:Int):Nat:=(imin (imax n 1) 200).toNat
theorem zsec_ok:zsec.ok:=⟨⟨List.length_replicate ..,IsB.zeros _⟩,fun b hb=>absurd hb (List.not_mem_nil)⟩
structure NewM (w0:Nat) (w:World) (sl:Value) (rs:List (Value×Value)):Prop where
  box:w.heap[w0]? = some (.cells #[sl,.bool false,.int .i64 (-1)] 173 (0,0))
  row:w.ownsRow (w0+1) 175 2 sl rs.length (secCells rs)
  secs : ∀r∈rs,BS w r.1 (List.replicate 256 0)∧r.2 = .slice none 0 0
  size:w0+1≤w.heap.size
theorem news_sec (W:World)(b:Nat)(hb:W.heap.size=b)(u v:Value)(e:Nat) : ∀j x,[u,v][j]? = some x→(W.alloc (.cells #[u,v] e)).cell? ((⟨b,0,none⟩:Addr).add j)=some x:=by subst hb;exact news2_at W u v e
theorem len48 {n:Nat}(h:n≤100000):(n+1)*48≤140737488355328:=by omega
theorem one_sec (b:Nat) : ∀u∈[Value.slice (some ⟨b,0,none⟩) 256 256,Value.slice none 0 0],u.oneCell'=true:=by
  intro u hu
  simp at hu
  rcases hu with rfl | rfl<;>rfl
theorem new_disk (n:Int)(w:World) :
    Calls Tryz.prog 55 #[.int .i64 n] w fun e w' => ∃p,e = .returned (.pointer (some ⟨p,0,none⟩))∧DskM (fun k=>w.heap.size≤k) w' p (zdisk (secsN n))∧Below w.heap.size w w':=by
  obtain⟨i0,hi,hzz⟩:=Option.map_eq_some_iff.1 info_sector
  simp only[Prod.mk.injEq] at hzz
  obtain⟨hz0,hz1,hz2⟩:=hzz
  obtain⟨m,hm⟩ : ∃m,imin (imax n 1) 200=m:=⟨_,rfl⟩
  have hm1:1≤m∧m≤200:=by rw[←hm,imin_eq,imax_eq];omega
  have HM:=Aside0.mk (show secsN n=m.toNat by unfold secsN;rw[hm])
  obtain⟨m1,m2⟩:=hm1
  have HI0:=Aside0.mk (And.intro hi (And.intro hz0 (And.intro hz1 hz2)))
  clear hi hz0 hz1 hz2
  go_enter Tryz.func55,Tryz.ntmps55
  go_wp2_with fail
  go_loopg [9] (m.toNat+1) (fun kq v9 w' => ∃(i:Int) (sl:Value) (rs:List (Value×Value)),v9 = .int .i64 i∧Aside0 (0≤i∧i≤m∧(kq:Int)=m+1 - i∧rs.length=i.toNat)∧Aside0 (NewM w.heap.size w' sl rs)∧Aside0 (Below w.heap.size w w'))
  case atStart=>
    refine⟨0,.slice none 0 0,[],rfl,⟨by omega,by omega,by omega,rfl⟩,⟨⟨?_,World.ownsRow_nil _ _ _ _,fun r h=>by simp at h,by simp⟩⟩,⟨by repeat (first | exact Below.refl _ _ | apply below_drew1 | apply below_alloc)⟩⟩
    show (w.heap.push _)[w.heap.size]? = _
    exact Array.getElem?_push_size
  case round=>
    obtain⟨i,sl,rs,rfl,HI,HN,HB⟩:=hrel
    have hi0:0≤i:=HI.out.1
    by_cases hlt:i<m
    · obtain⟨hi,hz0,hz1,hz2⟩:=HI0.out
      have hc0:wr.cell? ⟨w.heap.size,0,none⟩=some sl:=by simp[World.cell?,HN.out.box]
      have hf0:wr.frozen? ⟨w.heap.size,0,none⟩=false:=by simp[World.frozen?,HN.out.box]
      have hsz:=HN.out.size
      have hsz1:w.heap.size<wr.heap.size:=hsz
      have hmk:=make256
      have hn5:rs.length≤100000:=by have:=HI.out;omega
      go_wp2_with fail
      go_region_law (first
        | (refine step_append_lies _ (by rfl) _ _ 171 (by rfl) (w.heap.size+1) 175 i0 (.agg #[.slice none 0 0,.slice none 0 0]) 2 48 Tryz.underlying171 hi hz0 hz1 hz2 rfl (by decide) _ rs.length (secCells rs) (by rfl) (by exact ow_below HN.out.row (by repeat (first | exact Below.refl _ _ | apply below_drew1 | apply below_alloc))) ⟨wr.heap.size+1,0,none⟩ 1 1 [.slice (some ⟨wr.heap.size,0,none⟩) 256 256,.slice none 0 0] (by rfl) rfl (by exact news_sec _ _ (by simp) _ _ _) (by exact one_sec _) (by decide) (by exact len_ok hn5) (by exact len48 hn5) (by simp;omega) (wr.heap.size+2) (by simp) ?_;intro g2 cap2 w3 hown hgr hor hlt3;have hblk:w3.heap[w.heap.size]? = wr.heap[w.heap.size]? := grown_blk hgr (by exact (show Below wr.heap.size wr _ by repeat (first | exact Below.refl _ _ | apply below_drew1 | apply below_alloc)).block _ hsz1) (by simp;omega) (fun k hk=>by have:=(ow_block HN.out.row hk).1;omega);have hs1:w3.cell? ⟨w.heap.size,0,none⟩=some sl:=(World.cell?_of_block (w:=wr) (a:=⟨w.heap.size,0,none⟩) hblk).trans hc0;have hs2:w3.frozen? ⟨w.heap.size,0,none⟩=false:=(World.frozen?_of_block (w:=wr) (a:=⟨w.heap.size,0,none⟩) hblk).trans hf0))
      all_goals
        have HW:=Aside0.mk (show ∀b,b<wr.heap.size→some b≠sl.ownBlock→w3.heap[b]? = wr.heap[b]? from fun b hb hne=>(hgr.block b (by simp;omega) hne).trans ((show Below wr.heap.size wr _ by repeat (first | exact Below.refl _ _ | apply below_drew1 | apply below_alloc)).block _ hb))
        have HSZ:=Aside0.mk (show wr.heap.size+2≤w3.heap.size by have:=hgr.size;simp at this;omega)
        have HZ:=Aside0.mk (show w3.heap[wr.heap.size]? = some (.cells zb 5 (0,0)) from (hgr.block wr.heap.size (by simp;omega) (fun e=>by
          obtain⟨_,c,hc⟩:=ow_block HN.out.row e.symm
          have:=heap_lt hc
          omega)).trans (by
          show ((wr.heap.push _).push _)[wr.heap.size]? = _
          rw[Array.getElem?_push,if_neg (by simp),Array.getElem?_push_size]))
        have HO3:=Aside0.mk (show w3.ownsRow (w.heap.size+1) 175 2 (.slice (some ⟨g2,0,none⟩) (rs.length+1) cap2) (rs.length+1) (secCells (rs++[(.slice (some ⟨wr.heap.size,0,none⟩) 256 256,.slice none 0 0)])) from by rw[secCells_append];exact hown)
        have HB3:=Aside0.mk (show Below w.heap.size w w3 from (HB.out.trans (Below.mono (show Below wr.heap.size wr _ by repeat (first | exact Below.refl _ _ | apply below_drew1 | apply below_alloc)) (by omega))).grown (w:=_) hgr (by simp;omega) (fun k hk=>by have:=(ow_block HN.out.row hk).1;omega))
        have HS1:=Aside0.mk hs1
        clear hown hgr hor hlt3 hblk hi hz0 hz1 hz2 hmk hc0 hf0
        go_wp2_with fail
        go_roundg (gk - 1)
        case measure=>have:=HI.out;omega
        case rel=>
          refine⟨i+1,.slice (some ⟨g2,0,none⟩) (rs.length+1) cap2,rs++[(.slice (some ⟨wr.heap.size,0,none⟩) 256 256,.slice none 0 0)],rfl,⟨by omega,by omega,by have:=HI.out;omega,by rw[List.length_append];have:=HI.out;simp;omega⟩,⟨?_⟩,⟨HB3.out.setCell (Nat.le_refl _) _⟩⟩
          have hmv : ∀x b,BS wr x b→BS (w3.setCell ⟨w.heap.size,0,none⟩ (.slice (some ⟨g2,0,none⟩) (rs.length+1) cap2)) x b:=fun x b hx=>Rd.move hx (fun k hk=>by
            obtain⟨c,fz,hc⟩:=Rd.block hx hk
            rw[Below.heap_setCell _ _ _ _ (show k≠w.heap.size from fun e=>by subst e;rw[HN.out.box] at hc;injection hc with hc;injection hc with _ h2;exact absurd h2 (by decide))]
            exact HW.out k (heap_lt hc) (fun e=>by
              obtain⟨_,c2,hc2⟩:=ow_block HN.out.row e.symm
              rw[hc2] at hc;injection hc with hc;injection hc with _ h2;exact absurd h2 (by decide)))
          refine⟨?_,?_,?_,?_⟩
          · have hb0:w3.heap[w.heap.size]? = some (.cells #[sl,.bool false,.int .i64 (-1)] 173 (0,0)):=(HW.out _ hsz1 (fun e=>by have:=(ow_block HN.out.row e.symm).1;omega)).trans HN.out.box
            rw[heap_setCell_same _ _ _ _ _ _ hb0]
            simp
          · rw[List.length_append]
            exact ow_move HO3.out (fun k hk=>Below.heap_setCell _ _ _ _ (by have:=(ow_block HO3.out hk).1;show k≠w.heap.size;omega))
          · intro r hr
            rcases List.mem_append.1 hr with h | h
            · exact⟨hmv _ _ (HN.out.secs r h).1,(HN.out.secs r h).2⟩
            · obtain rfl:=List.mem_singleton.1 h
              exact⟨bs_zb (by rw[Below.heap_setCell _ _ _ _ (show wr.heap.size≠w.heap.size by omega)];exact HZ.out),rfl⟩
          · have:=HSZ.out
            simp[World.setCell]
            omega
    · have HI2:=Aside0.mk (show rs.length=m.toNat by have:=HI.out;omega)
      obtain⟨g,cap,hsl,hbg,hgl⟩:=HN.out.row.form (by have:=HI2.out;omega)
      subst hsl
      go_wp2_with fail
      go_ret
      refine⟨w.heap.size,rfl,⟨g,cap,rs,?_⟩,HB.out⟩
      have hlen:rs.length=(zdisk (secsN n)).l.length:=by rw[HM.out,HI2.out];exact (List.length_replicate ..).symm
      refine⟨?_,?_,hlen,Nat.le_refl _,by show w.heap.size≤g;omega,?_,?_,?_,?_⟩
      · have:=HN.out.box
        rw[hlen] at this
        exact this
      · have:=ow_base HN.out.row (Nat.zero_le _)
        rw[hlen] at this
        exact this
      · intro j r s hr hs
        obtain⟨h1,h2⟩:=HN.out.secs r (List.mem_of_getElem? hr)
        have hs':s=zsec:=(List.mem_replicate.1 (List.mem_of_getElem? hs)).2
        subst hs'
        rw[h2]
        exact⟨h1,⟨[],World.ownsRow_nil _ _ _ _,fun i b hb=>by cases hb⟩,fun k hk=>by cases hk⟩
      · intro j1 j2 r q k h1 h2 h3 h4
        rw[(HN.out.secs r (List.mem_of_getElem? h1)).2] at h3
        cases h3
      · intro s hs
        obtain⟨_,rfl⟩:=List.mem_replicate.1 hs
        exact zsec_ok
      · rw[←hlen];have:=HI2.out;omega
end Go.Proofs.YtaplpeoikebedaaGreatDoor.DiskN
