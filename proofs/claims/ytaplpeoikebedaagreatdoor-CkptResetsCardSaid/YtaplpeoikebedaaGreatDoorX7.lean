/- Joined texts: DiskW, PageL, RecD. No condition but what each says. -/
import Derived.Test.YtaplpeoikebedaaGreatDoorX6
import Derived.Deep.RegionLaw
import Derived.Test.YtaplpeoikebedaaGreatDoorX5
set_option maxHeartbeats 8000000
set_option maxRecDepth 100000
set_option linter.unusedVariables false
set_option linter.unusedSimpArgs false
namespace Go.Proofs.YtaplpeoikebedaaGreatDoor.DiskW
open Go.RowKit YtaplpeoikebedaaGreatDoorW.PrintWords YtaplpeoikebedaaGreatDoorW.PrintLast YtaplpeoikebedaaGreatDoorW.PrintMore
open See Mem Clone Go.Proofs.YtaplpeoikebedaaGreatDoor.Cell Page PageB PageR Disk DiskN
attribute [local go_sem] max2_imax min2_imin max_two min_two
def spendB (d:Dsk):Bool := !decide (d.fuse=0)
def spendD (d:Dsk):Dsk:=if d.fuse<0 then d else if d.fuse=0 then { d with off:=true } else { d with fuse:=d.fuse - 1 }
def OutK (K:List Nat)(M:Nat→Prop)(a:Nat→Addr):Prop := ∀i,i∈K→¬M (gl i)∧¬M (a i).block
abbrev Out (M:Nat→Prop) (a:Nat→Addr):Prop:=OutK kn M a
theorem OutK.gr {K:List Nat}{M:Nat→Prop}{a:Nat→Addr}{w w':World}(h:OutK K M a)(hs:SentsK K w a):OutK K (Gr M w w') a:=fun i hi=>by
  obtain⟨h1,h2⟩:=h i hi
  have l1:gl i<w.heap.size:=World.block_lt_of_cell? _ _ (hs.cell i hi)
  obtain⟨c,t,hr⟩:=hs.row i hi
  have l2:=heap_lt hr
  refine⟨fun h => ?_,fun h => ?_⟩
  · rcases h with h | ⟨h,_⟩
    · exact h1 h
    · omega
  · rcases h with h | ⟨h,_⟩
    · exact h2 h
    · omega
theorem sents_frm {K:List Nat}{T:List Nat}{M:Nat→Prop}{w w1:World}{a:Nat→Addr}(h:SentsK K w a)(hf:Frm T M w w1)(hO:OutK K M a):SentsK K w1 a:=by
  refine⟨fun i hi => ?_,fun i hi => ?_,h.ne⟩
  · exact (World.cell?_of_block (a:=⟨gl i,0,none⟩) (hf.block (gl i) (World.block_lt_of_cell? _ _ (h.cell i hi)) (fun hm=>absurd hm (hO i hi).1))).trans (h.cell i hi)
  · obtain⟨c,t,hr⟩:=h.row i hi
    exact⟨c,t,(hf.block _ (row_lt hr) (fun hm=>absurd hm (hO i hi).2)).trans hr⟩
theorem dsk_put {M:Nat→Prop}{w:World}{p g cap:Nat}{rs:List (Value×Value)}{d:Dsk}(h:DskAt M w p g cap rs d)(i:Nat)(v:Value)(d':Dsk)(hl:d'.l=d.l)(hc:(dskCells g cap d).setIfInBounds i v=dskCells g cap d') :
    DskAt M (w.setCell ⟨p,i,none⟩ v) p g cap rs d':=by
  have hne : ∀(k:Nat) (c:Array Value) (e:Nat) (fz:Nat×Nat),w.heap[k]? = some (.cells c e fz)→e≠173→(w.setCell ⟨p,i,none⟩ v).heap[k]? = w.heap[k]? := fun k c e fz hk he=>
    Below.heap_setCell _ _ _ _ (fun e2=>by
      subst e2
      rw[h.box] at hk
      injection hk with hk;injection hk with _ hk
      exact he hk.symm)
  have hbs : ∀x b,BS w x b→BS (w.setCell ⟨p,i,none⟩ v) x b:=fun x b hx=>Rd.move hx fun k hk=>by
    obtain⟨c,fz,hc⟩:=Rd.block hx hk
    exact hne k _ _ _ hc (by decide)
  refine⟨?_,?_,by rw[hl];exact h.len,h.mp,h.mg,fun j r s hj hs => ?_,h.apart,by rw[hl];exact h.ok,by rw[hl];exact h.few⟩
  · rw[heap_setCell_same _ _ _ _ _ _ h.box,hc]
  · rw[hl]
    exact ow_move h.row fun k hk=>by obtain⟨_,c,hc⟩:=ow_block h.row hk;exact hne k _ _ _ hc (by decide)
  · rw[hl] at hs
    obtain⟨h1,⟨vs,h2,h3⟩,h4⟩:=h.secs j r s hj hs
    refine⟨hbs _ _ h1,⟨vs,ow_move h2 fun k hk=>by obtain⟨_,c,hc⟩:=ow_block h2 hk;exact hne k _ _ _ hc (by decide),fun i b hb => ?_⟩,h4⟩
    obtain⟨x,hx,hx2⟩:=h3 i b hb
    exact⟨x,hx,hbs _ _ hx2⟩
theorem dsk_frozen {M:Nat→Prop}{w:World}{p g cap:Nat}{rs:List (Value×Value)}{d:Dsk}(h:DskAt M w p g cap rs d)(i:Nat):w.frozen? ⟨p,i,none⟩=false:=by simp[World.frozen?,h.box]
theorem frm_box {T:List Nat}{M:Nat→Prop}{w:World}{p:Nat}{c:Array Value}{e:Nat}{f:Nat×Nat}(h:w.heap[p]? = some (.cells c e f))(hM:M p)(hT:e∈T)(i:Nat)(v:Value):Frm T M w (w.setCell ⟨p,i,none⟩ v):=
  (Frm.refl T M w).set (fun _=>⟨hM,by rw[tag_of h];exact hT⟩) v
theorem spend_disk (M:Nat→Prop)(p g cap:Nat)(rs:List (Value×Value))(d:Dsk)(w:World)(hd:DskAt M w p g cap rs d)(hf : -1≤d.fuse)(hf2:d.fuse≤9223372036854775807) :
    Calls Tryz.prog 192 #[.pointer (some ⟨p,0,none⟩)] w fun e w'=>e = .returned (.bool (spendB d))∧DskAt M w' p g cap rs (spendD d)∧Frm dTurn M w w':=by
  obtain⟨hc0,hc1,hc2⟩:=hd.cells
  have HD:=Aside0.mk hd
  have hz1:w.frozen? ⟨p,1,none⟩=false:=dsk_frozen hd 1
  have hz2:w.frozen? ⟨p,2,none⟩=false:=dsk_frozen hd 2
  have hlt:p<w.heap.size:=heap_lt hd.box
  obtain⟨f,hff⟩ : ∃f,d.fuse=f:=⟨_,rfl⟩
  have HF:=Aside0.mk hff
  rw[hff] at hf hf2 hc2
  clear hd hff hc0
  rcases (show f<0∨f=0∨0<f by omega) with h | h | h
  · have h2:(f == 0)=false:=by simp;omega
    have HP:=Aside0.mk (show spendB d=true∧spendD d=d by unfold spendB spendD;rw[HF.out,if_pos h];exact⟨by simp;omega,rfl⟩)
    go_enter Tryz.func192,Tryz.ntmps192
    go_wp2
    go_ret
    exact⟨by simp[HP.out.1],by rw[HP.out.2];exact HD.out,Frm.refl _ _ _⟩
  · subst h
    have HP:=Aside0.mk (show spendB d=false∧spendD d={ d with off:=true } by unfold spendB spendD;rw[HF.out];simp)
    go_enter Tryz.func192,Tryz.ntmps192
    go_wp2
    go_ret
    exact⟨by simp[HP.out.1],by rw[HP.out.2];exact dsk_put HD.out 1 _ _ rfl rfl,frm_box HD.out.box HD.out.mp (by decide) _ _⟩
  · have h2:(f == 0)=false:=by simp;omega
    have HP:=Aside0.mk (show spendB d=true∧spendD d={ d with fuse:=f - 1 } by unfold spendB spendD;rw[HF.out,if_neg (by omega),if_neg (by omega)];exact⟨by simp;omega,rfl⟩)
    go_enter Tryz.func192,Tryz.ntmps192
    go_wp2
    go_ret
    exact⟨by simp[HP.out.1],by rw[HP.out.2];exact dsk_put HD.out 2 _ _ rfl rfl,frm_box HD.out.box HD.out.mp (by decide) _ _⟩
theorem secCells_set (rs:List (Value×Value))(i:Nat)(r:Value×Value)(v:Value)(h:rs[i]? = some r):(secCells rs).set (i*2+1) v=secCells (rs.set i (r.1,v)):=by
  induction rs generalizing i with
  | nil=>simp at h
  | cons s rs ih=>
    have e:secCells (s :: rs)=s.1 :: s.2 :: secCells rs:=by simp[secCells,List.flatMap_cons]
    cases i with
    | zero=>
      simp at h;subst h
      simp[secCells,List.flatMap_cons]
    | succ i=>
      rw[e,show (i+1)*2+1=i*2+1+1+1 from by omega,List.set_cons_succ,List.set_cons_succ,ih i (by simpa using h),List.set_cons_succ]
      simp[secCells,List.flatMap_cons]
theorem dsk_loosen {M:Nat→Prop}{w w3:World}{p g cap:Nat}{rs:List (Value×Value)}{d:Dsk}(h:DskAt M w p g cap rs d){i:Nat}{r:Value×Value}{s:Sec}{b:List Int}{nv:Value}(hr:rs[i]? = some r)(hs:d.l[i]? = some s)
    (hkeep : ∀k,k<w.heap.size→some k≠r.2.ownBlock→w3.heap[k]? = w.heap[k]?) (hsz:w.heap.size≤w3.heap.size)
    (hown : ∃vs,w3.ownsRow 0 93 1 nv (s.loose.length+1) vs∧∀(j:Nat) (b':List Int),(s.loose++[b])[j]? = some b'→∃x,vs[j]? = some x∧BS w3 x b')
    (hat:r.2.ownBlock=nv.ownBlock∨∀k,nv.ownBlock=some k→w.heap.size≤k) (hb:SecB b) :
    DskAt (Gr M w w3) (w3.setCell ⟨g,i*2+1,none⟩ nv) p g cap (rs.set i (r.1,nv)) { d with l:=d.l.modify i fun s=>⟨s.fast,s.loose++[b]⟩ }:=by
  have hgr : ∃c,w.heap[g]? = some (.cells c 175 (0,0)):=(ow_block h.row rfl).2
  obtain⟨cg,hcg⟩:=hgr
  have hold : ∀k,r.2.ownBlock=some k→∃c,w.heap[k]? = some (.cells c 93 (0,0)):=fun k hk=>by
    obtain⟨vs,h2,_⟩:=(h.secs i r s hr hs).loose
    exact (ow_block h2 hk).2
  have hne : ∀(k:Nat) (c:Array Value) (e:Nat) (fz:Nat×Nat),w.heap[k]? = some (.cells c e fz)→e≠93→w3.heap[k]? = w.heap[k]? := fun k c e fz hk he=>
    hkeep k (heap_lt hk) (fun e2=>by
      obtain⟨c2,h2⟩:=hold k e2.symm
      rw[h2] at hk
      injection hk with hk;injection hk with _ hk
      exact he hk.symm)
  have hg3:w3.heap[g]? = some (.cells cg 175 (0,0)):=(hne g _ _ _ hcg (by decide)).trans hcg
  have hset : ∀(k:Nat) (c:Array Value) (e:Nat) (fz:Nat×Nat),w3.heap[k]? = some (.cells c e fz)→e≠175→(w3.setCell ⟨g,i*2+1,none⟩ nv).heap[k]? = w3.heap[k]? := fun k c e fz hk he=>
    Below.heap_setCell _ _ _ _ (fun e2=>by
      subst e2
      rw[hg3] at hk
      injection hk with hk;injection hk with _ hk
      exact he hk.symm)
  have hbs3 : ∀x b,BS w3 x b→BS (w3.setCell ⟨g,i*2+1,none⟩ nv) x b:=fun x b hx=>Rd.move hx fun k hk=>by
    obtain⟨c,fz,hc⟩:=Rd.block hx hk
    exact hset k _ _ _ hc (by decide)
  have hbs : ∀x b,BS w x b→BS w3 x b:=fun x b hx=>Rd.move hx fun k hk=>by
    obtain⟨c,fz,hc⟩:=Rd.block hx hk
    exact hne k _ _ _ hc (by decide)
  have hlr:i<rs.length:=(List.getElem?_eq_some_iff.1 hr).1
  have hll:i<d.l.length:=(List.getElem?_eq_some_iff.1 hs).1
  refine⟨?_,?_,by simp[h.len],.inl h.mp,.inl h.mg,fun j q s' hj hs' => ?_,fun j1 j2 q1 q2 k h1 h2 h3 h4 => ?_,fun s' hs' => ?_,by simpa using h.few⟩
  · have hp3:=(hne p _ _ _ h.box (by decide)).trans h.box
    rw[(hset p _ _ _ hp3 (by decide)).trans hp3]
    simp[dskCells]
  · have ho:w3.ownsRow 0 175 2 (.slice (some ⟨g,0,none⟩) d.l.length cap) d.l.length (secCells rs):=ow_move h.row fun k hk=>by obtain⟨_,c,hc⟩:=ow_block h.row hk;exact hne k _ _ _ hc (by decide)
    have:=(ho.stored (i*2+1) nv).1
    rw[secCells_set rs i r nv hr] at this
    simpa using this
  · by_cases hji:j=i
    · subst hji
      rw[List.getElem?_set,if_pos rfl,if_pos hlr] at hj
      injection hj with hj
      subst hj
      simp only[List.getElem?_modify,hs] at hs'
      simp at hs'
      subst hs'
      obtain⟨vs,o1,o2⟩:=hown
      refine⟨hbs3 _ _ (hbs _ _ (h.secs j r s hr hs).fast),⟨vs,?_,fun j2 b' hb' => ?_⟩,fun k hk => ?_⟩
      · simp only[List.length_append,List.length_cons,List.length_nil,Nat.zero_add]
        exact ow_move o1 fun k hk=>by obtain⟨_,c,hc⟩:=ow_block o1 hk;exact hset k _ _ _ hc (by decide)
      · obtain⟨x,hx,hx2⟩:=o2 j2 b' hb'
        exact⟨x,hx,hbs3 _ _ hx2⟩
      · have hk:nv.ownBlock=some k:=hk
        rcases hat with hat | hat
        · exact .inl ((h.secs j r s hr hs).low k (hat.trans hk))
        · obtain⟨_,c,hc⟩:=ow_block o1 hk
          exact .inr ⟨hat k hk,heap_lt hc⟩
    · rw[List.getElem?_set,if_neg (fun e=>hji e.symm)] at hj
      have hs':d.l[j]? = some s':=by
        rw[List.getElem?_modify] at hs'
        simpa [show i≠j from fun e=>hji e.symm] using hs'
      obtain⟨h1,⟨vs,h2,h3⟩,h4⟩:=h.secs j q s' hj hs'
      have hmv : ∀k,q.2.ownBlock=some k→w3.heap[k]? = w.heap[k]? := fun k hk=>by
        obtain⟨_,c,hc⟩:=ow_block h2 hk
        exact hkeep k (heap_lt hc) (fun e=>hji (h.apart j i q r k hj hr hk e.symm))
      have h2':=ow_move h2 hmv
      refine⟨hbs3 _ _ (hbs _ _ h1),⟨vs,ow_move h2' fun k hk=>by obtain⟨_,c,hc⟩:=ow_block h2' hk;exact hset k _ _ _ hc (by decide),fun j2 b' hb' => ?_⟩,fun k hk=>.inl (h4 k hk)⟩
      obtain⟨x,hx,hx2⟩:=h3 j2 b' hb'
      exact⟨x,hx,hbs3 _ _ (hbs _ _ hx2)⟩
  · have key : ∀j q,j≠i→rs[j]? = some q→q.2.ownBlock=some k→nv.ownBlock=some k→False:=fun j q hji hj hq hn=>by
      rcases hat with hat | hat
      · exact hji (h.apart j i q r k hj hr hq (hat.trans hn))
      · have hk:=hat k hn
        have hs2 : ∃s',d.l[j]? = some s':=⟨_,List.getElem?_eq_getElem (by have:=(List.getElem?_eq_some_iff.1 hj).1;have:=h.len;omega)⟩
        obtain⟨s',hs2⟩:=hs2
        obtain⟨vs,h2,_⟩:=(h.secs j q s' hj hs2).loose
        obtain⟨_,c,hc⟩:=ow_block h2 hq
        have:=heap_lt hc
        omega
    rw[List.getElem?_set] at h1 h2
    by_cases e1:i=j1
    · by_cases e2:i=j2
      · omega
      · rw[if_pos e1,if_pos hlr] at h1
        injection h1 with h1;subst h1
        rw[if_neg e2] at h2
        exact (key j2 q2 (fun e=>e2 e.symm) h2 h4 h3).elim
    · rw[if_neg e1] at h1
      by_cases e2:i=j2
      · rw[if_pos e2,if_pos hlr] at h2
        injection h2 with h2;subst h2
        exact (key j1 q1 (fun e=>e1 e.symm) h1 h3 h4).elim
      · rw[if_neg e2] at h2
        exact h.apart j1 j2 q1 q2 k h1 h2 h3 h4
  · obtain⟨j,hj,hjs⟩:=List.getElem_of_mem hs'
    have hjs2:(d.l.modify i fun s=>⟨s.fast,s.loose++[b]⟩)[j]? = some s':=by rw[List.getElem?_eq_getElem hj,hjs]
    rw[List.getElem?_modify] at hjs2
    cases hjd:d.l[j]? with
    | none=>rw[hjd] at hjs2;simp at hjs2
    | some s0=>
      rw[hjd] at hjs2
      have ok0:=h.ok s0 (List.mem_of_getElem? hjd)
      by_cases e:i=j
      · simp[e] at hjs2
        subst hjs2
        exact⟨ok0.1,fun b' hb'=>by
          rcases List.mem_append.1 hb' with h' | h'
          · exact ok0.2 b' h'
          · rw[List.mem_singleton.1 h'];exact hb⟩
      · simp[e] at hjs2
        subst hjs2
        exact ok0
def writeE (d:Dsk)(i:Int)(b:List Int):Option Nat:=if d.off then some 0 else if inD d i then (if b.length=256 then (if spendB d then none else some 0) else some 2) else some 1
def writeD (d:Dsk)(i:Int)(b:List Int):Dsk:=
  if d.off then d else if inD d i then (if b.length=256 then spendD { d with l:=d.l.modify i.toNat fun s=>⟨s.fast,s.loose++[b]⟩ } else d) else d
def WritePost (a:Nat→Addr)(M:Nat→Prop)(p:Nat)(d:Dsk)(i:Int)(b:List Int)(w:World)(e:Ending)(w':World):Prop:=
  e = .returned (errv a (writeE d i b))∧DskM (Gr M w w') w' p (writeD d i b)∧Frm dTurn M w w'
theorem info_bytes2:(Tryz.prog.info? 93).map (fun i=>(i.zero,i.size,i.bytes))=some (some (.slice none 0 0),1,24):=by kernel_rfl
theorem news1_at (W:World)(b:Nat)(hb:W.heap.size=b)(u:Value)(e:Nat) : ∀j x,[u][j]? = some x→(W.alloc (.cells #[u] e)).cell? ((⟨b,0,none⟩:Addr).add j)=some x:=by
  subst hb
  intro j x hj
  rw[add_at]
  match j,hj with
  | 0,hj=>simp at hj;subst hj;simp
theorem one_sl (A:Option Addr)(n c:Nat) : ∀u∈[Value.slice A n c],u.oneCell'=true:=by
  intro u hu;simp at hu;subst hu;rfl
theorem len24 {n:Nat}(h:n≤100000):(n+1)*24≤140737488355328:=by omega
def FuseOk (d:Dsk):Prop := -1≤d.fuse∧d.fuse≤9223372036854775807
theorem write_disk (a:Nat→Addr)(M:Nat→Prop)(p:Nat)(d:Dsk)(i:Int)(v:Value)(b:List Int)(w:World)(hs:Sents w a)(hO:Out M a)(hd:DskM M w p d)(hb:BS w v b)(hB:IsB b)(hf:FuseOk d)(hfew : ∀s∈d.l,s.loose.length≤100000) :
    Calls Tryz.prog 134 #[.pointer (some ⟨p,0,none⟩),.int .i64 i,v] w (WritePost a M p d i b w):=by
  have hDM:=Aside0.mk hd
  obtain⟨g,cap,rs,hd⟩:=hd
  obtain⟨hc0,hc1,hc2⟩:=hd.cells
  have HD:=Aside0.mk hd
  have HS:=Aside0.mk hs
  have HBS:=Aside0.mk hb
  have HIB:=Aside0.mk hB
  have HFU:=Aside0.mk hf
  have HOUT:=Aside0.mk hO
  clear hO
  have HFEW:=Aside0.mk (show ∀s∈d.l,∀m,s.loose.length=m→m≤100000 from fun s hs m hm=>by rw[←hm];exact hfew s hs)
  clear hfew
  have hg0:w.cell? ⟨8,0,none⟩=some (.iface 333 (.pointer (some (a 0)))):=hs.cell 0 (by decide)
  have hg1:w.cell? ⟨6,0,none⟩=some (.iface 333 (.pointer (some (a 1)))):=hs.cell 1 (by decide)
  have hg2:w.cell? ⟨9,0,none⟩=some (.iface 333 (.pointer (some (a 2)))):=hs.cell 2 (by decide)
  obtain⟨off,hoff⟩ : ∃o,d.off=o:=⟨_,rfl⟩
  have HOFF:=Aside0.mk hoff
  obtain⟨A,c,hv,_⟩:=Rd.form hb
  obtain⟨n,hn⟩ : ∃n,b.length=n:=⟨_,rfl⟩
  have HN:=Aside0.mk hn
  have hn6:n≤1000000:=by rw[←hn];exact hb.2.1
  rw[hoff] at hc1
  rw[hn] at hv
  have hat:Aside0 (∃q:Option Addr,(inD d i=true→q=some ⟨g,i.toNat*2,none⟩)∧(inD d i=false→q=none)∧Calls Tryz.prog 102 #[.pointer (some ⟨p,0,none⟩),.int .i64 i] w fun e w'=>e = .returned (.pointer q)∧w=w'):=by
    refine⟨?_⟩
    cases hin:inD d i with
    | true=>exact⟨_,fun _=>rfl,fun h=>(by cases h),at_in p g _ cap i w hc0 (inD_true hin).1 (inD_true hin).2⟩
    | false=>exact⟨none,fun h=>(by cases h),fun _=>rfl,at_out p g _ cap i w hc0 (inD_false hin)⟩
  have hpost : ∀o,writeE d i b=o→writeD d i b=d→WritePost a M p d i b w (.returned (errv a o)) w:=fun o h1 h2=>⟨by rw[h1],by rw[h2];exact hDM.out.mono fun k hk=>.inl hk,Frm.refl _ _ _⟩
  have HPOST:=Aside0.mk hpost
  clear hd hs hb hB hf hoff hc2 hn hc0 hpost
  obtain⟨q,hq1,hq2,hcall⟩:=hat.out
  have HQ1:=Aside0.mk hq1
  have HQ2:=Aside0.mk hq2
  have HCALL:=Aside0.mk hcall
  clear hq1 hq2 hcall hat
  subst hv
  cases off with
  | true=>
    have HR:=Aside0.mk (show writeE d i b=some 0∧writeD d i b=d by unfold writeE writeD;simp[HOFF.out])
    go_enter Tryz.func134,Tryz.ntmps134
    go_wp2_with fail
    refine HCALL.out.mono ?_
    rintro e w' ⟨rfl,rfl⟩
    go_wp2_with fail
    go_ret
    exact HPOST.out (some 0) HR.out.1 HR.out.2
  | false=>
    cases hin:inD d i with
    | false=>
      have HR:=Aside0.mk (show writeE d i b=some 1∧writeD d i b=d by unfold writeE writeD;simp[HOFF.out,hin])
      have hq:=HQ2.out hin
      clear hin
      subst hq
      go_enter Tryz.func134,Tryz.ntmps134
      go_wp2_with fail
      refine HCALL.out.mono ?_
      rintro e w' ⟨rfl,rfl⟩
      go_wp2_with fail
      go_ret
      exact HPOST.out (some 1) HR.out.1 HR.out.2
    | true=>
      have hq:=HQ1.out hin
      subst hq
      by_cases hn2:n=256
      · subst hn2
        have HIN:=Aside0.mk hin
        obtain⟨i0,i1⟩:=inD_true hin
        obtain⟨s,hs⟩ : ∃s,d.l[i.toNat]? = some s:=⟨_,List.getElem?_eq_getElem (by omega)⟩
        obtain⟨r,hr⟩ : ∃r,rs[i.toNat]? = some r:=⟨_,List.getElem?_eq_getElem (by have:=HD.out.len;omega)⟩
        have hsm:=HD.out.secs _ r s hr hs
        obtain⟨hd0,hd1⟩:=HD.out.sec hr
        have HRS0:=Aside0.mk (And.intro hr hs)
        obtain⟨fv,lv⟩:=r
        obtain⟨hfast,⟨vs,hown,hls⟩,hlow⟩:=hsm
        simp only at hd0 hd1 hfast hown hls hlow
        obtain⟨m,hm⟩ : ∃m,s.loose.length=m:=⟨_,rfl⟩
        have HMM:=Aside0.mk hm
        have HO:=Aside0.mk hown
        have HLS:=Aside0.mk hls
        obtain⟨A',c',rfl,hA'⟩:=ow_slice hown
        have HRS:=Aside0.mk (And.intro HRS0.out.1 (And.intro HRS0.out.2 hlow))
        clear HRS0
        have hm5:m≤100000:=HFEW.out s (List.mem_of_getElem? hs) m hm
        rw[hm] at hd1 HO hA' HRS
        obtain⟨i00,hii,hzz⟩:=Option.map_eq_some_iff.1 info_bytes2
        simp only[Prod.mk.injEq] at hzz
        obtain⟨hz0,hz1,hz2⟩:=hzz
        have hgl:g<w.heap.size:=by obtain⟨_,cg,hcg⟩:=ow_block HD.out.row rfl;exact heap_lt hcg
        have hfz:w.frozen? ⟨g,i.toNat*2+1,none⟩=false:=HD.out.row.frozenAt _
        have hgne:some g≠(Value.slice A' m c').ownBlock:=fun e=>by
          obtain⟨_,cg,hcg⟩:=ow_block HD.out.row rfl
          obtain⟨_,cl,hcl⟩:=ow_block HO.out e.symm
          rw[hcg] at hcl;injection hcl with hcl;injection hcl with _ hcl
          exact absurd hcl (by decide)
        have HGNE:=Aside0.mk hgne
        clear hin hs hr hfast hown hls hlow hm hA' i1 hgne
        go_enter Tryz.func134,Tryz.ntmps134
        go_wp2_with fail
        refine HCALL.out.mono ?_
        rintro e w' ⟨rfl,rfl⟩
        go_wp2_with fail
        go_region_law (first
          | (have hv1k:=hv1k;refine step_append_lies _ (by rfl) _ _ 88 (by rfl) 0 93 i00 (.slice none 0 0) 1 24 Tryz.underlying88 hii hz0 hz1 hz2 rfl (by decide) _ m vs (by rfl) (by exact ow_below HO.out (by repeat (first | exact hbb | apply below_drew1 | apply below_alloc))) ⟨w1.heap.size,0,none⟩ 1 1 [.slice A1 256 c1] (by rfl) rfl (by exact news1_at _ _ (by simp) _ _) (by exact one_sl _ _ _) (by decide) (by exact len_ok hm5) (by exact len24 hm5) (by exact Nat.zero_le _) (w1.heap.size+1) (by simp) ?_;intro g2 cap2 w3 hown hgr hor hlt3;have hkg:w3.heap[g]? = w.heap[g]? := grown_blk hgr (by exact (show Below w.heap.size w _ by repeat (first | exact hbb | apply below_drew1 | apply below_alloc)).block _ hgl) (by have:=hbb.size;simp;omega) (fun k hk e=>HGNE.out (by rw[e] at hk;exact hk.symm));have hs1:w3.cell? ⟨g,i.toNat*2+1,none⟩=some (.slice A' m c'):=(World.cell?_of_block (w:=w) (a:=⟨g,i.toNat*2+1,none⟩) hkg).trans hd1;have hs2:w3.frozen? ⟨g,i.toNat*2+1,none⟩=false:=(World.frozen?_of_block (w:=w) (a:=⟨g,i.toNat*2+1,none⟩) hkg).trans hfz)
          | (go_simp;go_at_call 95;refine (clone_bytes (.slice A 256 c) 256 (b.map (.int .u8)) _ (by have h:=HBS.out;unfold BS at h;rw[HN.out] at h;exact h) (fun u hu=>by obtain⟨z,_,rfl⟩:=List.mem_map.1 hu;rfl)).mono ?_;rintro e w1 ⟨v1,rfl,ho,hb⟩;obtain⟨A1,c1,rfl,hv1k⟩:=ow_slice ho;have hbb:Below w.heap.size w w1:=⟨hb.os,hb.tape,hb.output,hb.size,hb.block⟩;have hdk:w1.cell? ⟨g,i.toNat*2+1,none⟩=some (.slice A' m c'):=pw_cell_below hbb hd1;have hgl1:g<w1.heap.size:=Nat.lt_of_lt_of_le hgl hbb.size))
        all_goals
          have HOWN:=Aside0.mk hown
          have HGR:=Aside0.mk hgr
          have HOR:=Aside0.mk hor
          have HB:=Aside0.mk hbb
          have HO1:=Aside0.mk ho
          have HSZ:=Aside0.mk (show w1.heap.size+1≤w3.heap.size by have:=hgr.size;simp at this;omega)
          have HK:=Aside0.mk (show ∀k,k<w1.heap.size→some k≠(Value.slice A' m c').ownBlock→w3.heap[k]? = w1.heap[k]? from fun k hk hne=>(hgr.block k (by simp;omega) hne).trans ((show Below w1.heap.size w1 _ by repeat (first | exact Below.refl _ _ | apply below_drew1 | apply below_alloc)).block k hk))
          have HF3:=Aside0.mk (show Frm dTurn M w w3 from (Frm.of_below (show Below w.heap.size w _ by repeat (first | exact hbb | apply below_drew1 | apply below_alloc))).grown hgr (fun k hk hlt=>⟨HRS.out.2.2 k hk,by obtain⟨_,cl,hcl⟩:=ow_block HO.out hk;rw[tag_of hcl];decide⟩))
          clear hown hgr hor hbb ho hb hii hz0 hz1 hz2
          have HKW:=Aside0.mk (show ∀k,k<w.heap.size→some k≠(Value.slice A' m c').ownBlock→w3.heap[k]? = w.heap[k]? from fun k hk hne=>(HK.out k (Nat.lt_of_lt_of_le hk HB.out.size) hne).trans (HB.out.block k hk))
          have HD4:=Aside0.mk (dsk_loosen HD.out HRS.out.1 HRS.out.2.1 (b:=b) (nv:=.slice (some ⟨g2,0,none⟩) (m+1) cap2) HKW.out (by have:=HSZ.out;have:=HB.out.size;omega)
            ⟨_,by rw[HMM.out];exact HOWN.out,fun j b' hj=>by
              have hvl:vs.length=m:=by have:=HO.out.1;omega
              have hnk : ∀(k:Nat) (c:Array Value) (fz:Nat×Nat),w1.heap[k]? = some (.cells c 5 fz)→some k≠(Value.slice A' m c').ownBlock:=fun k c fz hk e=>by
                obtain⟨_,cl,hcl⟩:=ow_block HO.out e.symm
                rw[HB.out.block k (heap_lt hcl),hcl] at hk
                injection hk with hk;injection hk with _ hk
                exact absurd hk (by decide)
              rcases (show j<m∨m≤j by omega) with hjm | hjm
              · rw[List.getElem?_append_left (by rw[HMM.out];exact hjm)] at hj
                obtain⟨x,hx,hxb⟩:=HLS.out j b' hj
                refine⟨x,by rw[List.getElem?_append_left (by omega)];exact hx,Rd.move (BS.below hxb HB.out) fun k hk => ?_⟩
                obtain⟨cc,fz,hcc⟩:=Rd.block (BS.below hxb HB.out) hk
                exact HK.out k (heap_lt hcc) (hnk k _ _ hcc)
              · rw[List.getElem?_append_right (by rw[HMM.out];exact hjm),HMM.out] at hj
                have hjj:j - m=0:=by have:=(List.getElem?_eq_some_iff.1 hj).1;simp at this;omega
                rw[hjj] at hj
                simp at hj
                subst hj
                refine⟨.slice A1 256 c1,by rw[List.getElem?_append_right (by omega),hvl,hjj];rfl,?_⟩
                unfold BS
                rw[HN.out]
                refine Rd.move (Rd.of_own HO1.out (by omega)) fun k hk => ?_
                obtain⟨_,cc,hcc⟩:=ow_block HO1.out hk
                exact HK.out k (heap_lt hcc) (hnk k _ _ hcc)⟩
            (by
              rcases HOR.out with h | h
              · exact .inl h
              · refine .inr fun k hk => ?_
                have:g2=k:=by simpa [Value.ownBlock] using hk
                have:=HB.out.size
                omega)
            ⟨HN.out,HIB.out⟩)
          obtain⟨d4,hd4⟩ : ∃d4,d4=({ d with l:=d.l.modify i.toNat fun s=>⟨s.fast,s.loose++[b]⟩ }:Dsk):=⟨_,rfl⟩
          have HR:=Aside0.mk (show writeD d i b=spendD d4∧writeE d i b=(if spendB d4 then none else some 0)∧FuseOk d4 by
            rw[hd4];unfold writeE writeD;simp only[HOFF.out,HIN.out,HN.out];exact⟨by simp,by simp[spendB],HFU.out⟩)
          rw[←hd4] at HD4
          clear hd4
          have HG3:=Aside0.mk (show Frm dTurn M w (w3.setCell ⟨g,i.toNat*2+1,none⟩ (.slice (some ⟨g2,0,none⟩) (m+1) cap2)) from HF3.out.set (fun _=>⟨HD.out.mg,by obtain⟨_,cg,hcg⟩:=ow_block HD.out.row rfl;rw[tag_of hcg];decide⟩) _)
          go_wp2_with fail
          refine (spend_disk (Gr M w w3) p g cap _ d4 _ HD4.out HR.out.2.2.1 HR.out.2.2.2).mono ?_
          rintro e w5 ⟨rfl,hd5,hf5⟩
          have HD5:=Aside0.mk hd5
          have HF5:=Aside0.mk (show Frm dTurn M w w5 from HG3.out.transG (hf5.wide (fun _ h=>h) (fun k _ hk=>by
            rcases hk with hk | ⟨h1,h2⟩
            · exact .inl hk
            · exact .inr ⟨h1,by simpa [World.setCell] using h2⟩)))
          have hg05:w5.cell? ⟨8,0,none⟩=some (.iface 333 (.pointer (some (a 0)))):=(sents_frm HS.out HF5.out HOUT.out).cell 0 (by decide)
          have HGR5:=Aside0.mk (show DskM (Gr M w w5) w5 p (writeD d i b) from⟨g,cap,_,by
            rw[HR.out.1]
            exact HD5.out.mono fun k hk=>by
              rcases hk with hk | ⟨h1,h2⟩
              · exact .inl hk
              · exact .inr ⟨h1,by have:=hf5.size;simp[World.setCell] at this;omega⟩⟩)
          clear hd5 hf5
          cases hsp:spendB d4 with
          | true=>
            have HE:=Aside0.mk (show writeE d i b=none by rw[HR.out.2.1,hsp];rfl)
            clear hsp
            go_wp2_with fail
            go_ret
            exact⟨by rw[HE.out];rfl,HGR5.out,HF5.out⟩
          | false=>
            have HE:=Aside0.mk (show writeE d i b=some 0 by rw[HR.out.2.1,hsp];rfl)
            clear hsp
            go_wp2_with fail
            go_ret
            exact⟨by rw[HE.out];rfl,HGR5.out,HF5.out⟩
      · have HR:=Aside0.mk (show writeE d i b=some 2∧writeD d i b=d by unfold writeE writeD;simp[HOFF.out,hin,HN.out,hn2])
        have hn3:((n:Int) != 256)=true:=by simp;omega
        clear hin
        go_enter Tryz.func134,Tryz.ntmps134
        go_wp2_with fail
        refine HCALL.out.mono ?_
        rintro e w' ⟨rfl,rfl⟩
        go_wp2_with fail
        go_ret
        exact HPOST.out (some 2) HR.out.1 HR.out.2
end Go.Proofs.YtaplpeoikebedaaGreatDoor.DiskW
namespace Go.Proofs.YtaplpeoikebedaaGreatDoor.PageL
open Go.RowKit See Mem Clone Go.Proofs.YtaplpeoikebedaaGreatDoor.Cell Page PageB PageR
theorem putL_same (bs:List Int)(a d:Nat)(n:Int)(h:a+d≤bs.length):fld (putL bs a d n) a d=n % 256 ^ d:=by
  unfold fld putL
  have h1:(bs.take a).length=a:=by rw[List.length_take];omega
  rw[List.drop_append_of_le_length (by omega),List.drop_of_length_le (by omega),List.nil_append,List.take_append_of_le_length (by rw[leB_length];omega),List.take_of_length_le (by rw[leB_length];omega),le_leB]
theorem putL_apart (bs:List Int)(a d:Nat)(n:Int)(a' d':Nat)(h:a+d≤bs.length)(hd:a'+d'≤a∨a+d≤a'):fld (putL bs a d n) a' d'=fld bs a' d':=by
  have h1:(bs.take a).length=a:=by rw[List.length_take];omega
  unfold fld putL
  congr 1
  apply List.ext_getElem?
  intro i
  by_cases hi:i<d'
  · rw[List.getElem?_take,if_pos hi,List.getElem?_take,if_pos hi,List.getElem?_drop,List.getElem?_drop]
    rcases hd with hd | hd
    · rw[List.getElem?_append_left (by omega),List.getElem?_take,if_pos (by omega)]
    · rw[List.getElem?_append_right (by omega),h1,List.getElem?_append_right (by rw[leB_length];omega),leB_length,List.getElem?_drop]
      congr 1;omega
  · rw[List.getElem?_take,if_neg hi,List.getElem?_take,if_neg hi]
theorem u64_id {n:Int}(h0:0≤n)(h1:n<18446744073709551616):IntKind.u64.wrap n=n:=wrap64u h0 (by exact h1)
theorem z256:0+4≤(List.replicate 256 (0:Int)).length:=by rw[List.length_replicate];omega
theorem pbN_lsn (lsn:Int)(es:List (Int×Int))(h0:0≤lsn)(h1:lsn≤1073741824) : ∀i,i≤20→fld (pbN lsn es i) 0 4=lsn
  | 0,_=>by
    unfold pbN
    rw[putL_apart _ _ _ _ _ _ (by rw[putL_length _ _ _ _ z256,List.length_replicate];omega) (by omega),putL_same _ _ _ _ z256,u64_id h0 (by omega)]
    exact Int.emod_eq_of_lt h0 (by omega)
  | i+1,h=>by
    have hl:=pbN_len lsn es i (by omega)
    unfold pbN
    split
    · exact pbN_lsn lsn es h0 h1 i (by omega)
    · unfold pbAdd
      rw[putL_apart _ _ _ _ _ _ (by rw[putL_length _ _ _ _ (by omega)];omega) (by omega),putL_apart _ _ _ _ _ _ (by omega) (by omega)]
      exact pbN_lsn lsn es h0 h1 i (by omega)
theorem pbN_cnt (lsn:Int)(es:List (Int×Int))(hn:es.length≤20) : ∀i,i≤20→fld (pbN lsn es i) 4 2=es.length
  | 0,_=>by
    unfold pbN
    rw[putL_same _ _ _ _ (by rw[putL_length _ _ _ _ z256,List.length_replicate];omega),u64_id (by omega) (by omega)]
    exact Int.emod_eq_of_lt (by omega) (by omega)
  | i+1,h=>by
    have hl:=pbN_len lsn es i (by omega)
    unfold pbN
    split
    · exact pbN_cnt lsn es hn i (by omega)
    · unfold pbAdd
      rw[putL_apart _ _ _ _ _ _ (by rw[putL_length _ _ _ _ (by omega)];omega) (by omega),putL_apart _ _ _ _ _ _ (by omega) (by omega)]
      exact pbN_cnt lsn es hn i (by omega)
def is64 (n:Int):Prop := -9223372036854775808≤n∧n≤9223372036854775807
theorem wrap_back {n:Int}(h:is64 n):IntKind.i64.wrap (IntKind.u64.wrap n % 256 ^ 8)=n:=by
  obtain⟨h1,h2⟩:=h
  have e:IntKind.u64.wrap n=n % 18446744073709551616:=by
    simp only[IntKind.wrap,IntKind.bits,IntKind.signed,Bool.false_and]
    rw[if_neg (by simp)];rfl
  rw[e]
  have e2:n % 18446744073709551616 % 256 ^ 8=n % 18446744073709551616:=Int.emod_eq_of_lt (Int.emod_nonneg _ (by decide)) (Int.emod_lt_of_pos _ (by decide))
  rw[e2]
  simp only[IntKind.wrap,IntKind.bits,IntKind.signed]
  by_cases hn:0≤n
  · rw[Int.emod_eq_of_lt hn (by omega)]
    simp
    omega
  · have:n % 18446744073709551616=n+18446744073709551616:=by omega
    rw[this]
    simp
    omega
theorem pbN_key (lsn:Int)(es:List (Int×Int))(hk : ∀e∈es,0≤e.1∧e.1<1048576∧is64 e.2) : ∀i,i≤20→i≤es.length→∀k e,k<i→es[k]? = some e→keyAt (pbN lsn es i) k=e
  | 0,_,_,k,e,h,_=>by omega
  | i+1,h,hn,k,e,hki,he=>by
    have hl:=pbN_len lsn es i (by omega)
    obtain⟨x,hx⟩ : ∃x,es[i]? = some x:=⟨_,List.getElem?_eq_getElem (by omega)⟩
    obtain⟨k0,k1,k2⟩:=hk x (List.mem_of_getElem? hx)
    have hl2:(putL (pbN lsn es i) (16+12*i) 4 (IntKind.u64.wrap x.1)).length=256:=by rw[putL_length _ _ _ _ (by omega),hl]
    rw[pbN,hx]
    simp only[keyAt,pbAdd]
    rcases (show k<i∨k=i by omega) with h1 | h1
    · have:=pbN_key lsn es hk i (by omega) (by omega) k e h1 he
      unfold keyAt at this
      rw[putL_apart _ _ _ _ _ _ (by omega) (by omega),putL_apart _ _ _ _ _ _ (by omega) (by omega),putL_apart _ _ _ _ _ _ (by omega) (by omega),putL_apart _ _ _ _ _ _ (by omega) (by omega)]
      exact this
    · subst h1
      rw[he] at hx
      obtain rfl:=Option.some.inj hx
      rw[putL_apart _ _ _ _ _ _ (by omega) (by omega),putL_same _ _ _ _ (by omega),putL_same _ _ _ _ (by omega),u64_id k0 (by omega),wrap_back k2]
      rw[Int.emod_eq_of_lt k0 (by omega)]
def PageV (lsn:Int)(es:List (Int×Int)):Prop:=pageOk lsn es=true∧∀e∈es,is64 e.2
theorem page_back {lsn:Int}{es:List (Int×Int)}(h:PageV lsn es):readPage (pageBytes lsn es)=some (lsn,es):=by
  obtain⟨h,hv⟩:=h
  obtain⟨h0,h1,h2⟩:=head_facts (headOk_of h)
  have hk : ∀e∈es,0≤e.1∧e.1<1048576∧is64 e.2:=fun e he=>by
    obtain⟨k,hk,hke⟩:=List.getElem_of_mem he
    have:=keyOk_of h hk
    unfold keyOk at this
    rw[List.getElem?_eq_getElem hk,hke] at this
    simp at this
    exact⟨this.1.1,this.1.2,hv e he⟩
  have e1:lsnOf (pageBytes lsn es)=lsn:=pbN_lsn lsn es h0 h1 _ h2
  have e2:cntOf (pageBytes lsn es)=es.length:=by
    unfold cntOf pageBytes
    rw[pbN_cnt lsn es h2 _ h2];omega
  have e3:keysOf (pageBytes lsn es) es.length=es:=by
    apply List.ext_getElem?
    intro k
    unfold keysOf
    rw[List.getElem?_map]
    by_cases hkl:k<es.length
    · obtain⟨x,hx⟩ : ∃x,es[k]? = some x:=⟨_,List.getElem?_eq_getElem hkl⟩
      rw[hx]
      simp[hkl]
      exact pbN_key lsn es hk _ h2 (Nat.le_refl _) k x hkl hx
    · rw[List.getElem?_eq_none (show es.length≤k by omega)]
      simp;omega
  unfold readPage
  rw[e1,e2,e3,h]
  simp
theorem pageBytes_ok (lsn:Int)(es:List (Int×Int))(h:es.length≤20):(pageBytes lsn es).length=256∧IsB (pageBytes lsn es):=⟨pbN_len lsn es _ h,pbN_isB lsn es _⟩
end Go.Proofs.YtaplpeoikebedaaGreatDoor.PageL
namespace Go.Proofs.YtaplpeoikebedaaGreatDoor.RecD
open Go.RowKit See Mem Clone Go.Proofs.YtaplpeoikebedaaGreatDoor.Cell Page PageB PageR Disk DiskN DiskW PageL
structure RecV where
  kind:Int
  txn:Int
  page:Int
  prev:Int
  next:Int
  key:Int
  had:Bool
  has:Bool
  old:Int
  new:Int
def recL (r:RecV):List Value:=[.int .i64 r.kind,.int .i64 r.txn,.int .i64 r.page,.int .i64 r.prev,.int .i64 r.next,.int .i64 r.key,.bool r.had,.bool r.has,.int .i64 r.old,.int .i64 r.new]
def recA (r:RecV):Array Value:=#[.int .i64 r.kind,.int .i64 r.txn,.int .i64 r.page,.int .i64 r.prev,.int .i64 r.next,.int .i64 r.key,.bool r.had,.bool r.has,.int .i64 r.old,.int .i64 r.new]
theorem recL_one (r:RecV) : ∀u∈recL r,u.oneCell'=true:=by
  intro u hu
  simp[recL] at hu
  rcases hu with rfl | rfl | rfl | rfl | rfl | rfl | rfl | rfl | rfl | rfl<;>rfl
def inB (n lo hi:Int):Bool:=decide (lo≤n) && decide (n≤hi)
def prevOk (r:RecV):Bool:=
  if r.kind=1∨r.kind=7∨r.kind=10 then r.prev == 0 else if r.kind=9 then inB r.prev 1 1073741824 else inB r.prev 0 1073741824
def nextOk (r:RecV):Bool:=
  if r.kind=3∨r.kind=8 then inB r.next 0 1073741824 else if r.kind=10 then inB r.next 0 60000 else r.next == 0
def rkeyOk (r:RecV):Bool:=
  if r.kind=2∨r.kind=3 then inB r.key 0 1048575 else if r.kind=8 then inB r.key 0 2 else r.key == 0
def valsOk (r:RecV):Bool:=
  if (r.has=false∧r.new≠0)∨(r.had=false∧r.old≠0) then false
  else if r.kind=2 then r.had || r.has
  else if r.kind=3 then r.had && decide (1≤r.old) && decide (r.old≤1073741824)
  else !r.had && !r.has
def txnMax (r:RecV):Int:=if (1≤r.kind∧r.kind≤6)∨r.kind=8 then 60000 else 0
def pageMax (r:RecV):Int:=if r.kind=2∨r.kind=3∨r.kind=9 then 32 else 0
def recOk (r:RecV):Bool:=
  inB r.kind 1 10 && inB r.txn (min (txnMax r) 1) (txnMax r) && inB r.page (min (pageMax r) 1) (pageMax r) && prevOk r && nextOk r && rkeyOk r && valsOk r
def recE (r:RecV):Option Nat:=if recOk r then none else some 1
def flagsOf (r:RecV):Int:=(if r.had then 1 else 0)+(if r.has then 2 else 0)
def recParts (r:RecV):List (Int×Int×Int):=[(0,1,r.kind),(1,1,flagsOf r),(2,2,r.txn),(4,2,r.page),(8,4,r.prev),(12,4,r.next),(16,4,r.key),(24,8,r.old),(32,8,r.new)]
def recPart (r:RecV)(i:Nat):Int×Int×Int:=(recParts r).getD i (0,1,0)
def recN (r:RecV):Nat→List Int
  | 0=>List.replicate 40 0
  | i+1=>putL (recN r i) (recPart r i).1.toNat (recPart r i).2.1.toNat (IntKind.u64.wrap (recPart r i).2.2)
def recBytes (r:RecV):List Int:=recN r 9
theorem recPart_fits (r:RecV) : ∀i,i<9→0≤(recPart r i).1∧1≤(recPart r i).2.1∧(recPart r i).2.1≤8∧(recPart r i).1+(recPart r i).2.1≤40:=by
  intro i hi
  match i,hi with
  | 0,_=>simp[recPart,recParts]
  | 1,_=>simp[recPart,recParts]
  | 2,_=>simp[recPart,recParts]
  | 3,_=>simp[recPart,recParts]
  | 4,_=>simp[recPart,recParts]
  | 5,_=>simp[recPart,recParts]
  | 6,_=>simp[recPart,recParts]
  | 7,_=>simp[recPart,recParts]
  | 8,_=>simp[recPart,recParts]
theorem recN_len (r:RecV) : ∀i,i≤9→(recN r i).length=40
  | 0,_=>by simp[recN]
  | i+1,h=>by
    have h1:=recN_len r i (by omega)
    have h2:=recPart_fits r i (by omega)
    rw[recN,putL_length _ _ _ _ (by omega),h1]
theorem recN_isB (r:RecV) : ∀i,IsB (recN r i)
  | 0=>IsB.zeros _
  | i+1=>putL_isB (recN_isB r i) _ _ _
theorem recBytes_len (r:RecV):(recBytes r).length=40:=recN_len r 9 (by omega)
theorem recBytes_isB (r:RecV):IsB (recBytes r):=recN_isB r 9
def blockHead (epoch:Int)(n:Nat):List Int:=putL (putL ([80,72,88,66]++List.replicate 12 0) 4 4 (IntKind.u64.wrap epoch)) 8 2 (IntKind.u64.wrap (n:Int))
theorem isB_head:IsB ([80,72,88,66]++List.replicate 12 (0:Int)):=fun x h=>by
  simp at h;omega
theorem blockHead_len (e:Int)(n:Nat):(blockHead e n).length=16:=by
  unfold blockHead
  rw[putL_length _ _ _ _ (by rw[putL_length _ _ _ _ (by simp)];simp),putL_length _ _ _ _ (by simp)];simp
theorem blockHead_isB (e:Int)(n:Nat):IsB (blockHead e n):=putL_isB (putL_isB isB_head _ _ _) _ _ _
def fillL (b:List Int)(n:Nat):List Int:=b++List.replicate (n - b.length) 0
def blockBody (l:List RecV):List Int:=l.flatMap recBytes
theorem blockBody_len (l:List RecV):(blockBody l).length=40*l.length:=by
  induction l with
  | nil=>rfl
  | cons r l ih=>unfold blockBody at ih ⊢;rw[List.flatMap_cons,List.length_append,ih,recBytes_len,List.length_cons];omega
theorem blockBody_isB (l:List RecV):IsB (blockBody l):=fun x h=>by
  obtain⟨r,_,hr⟩:=List.mem_flatMap.1 h
  exact recBytes_isB r x hr
def blockBytes (epoch:Int)(l:List RecV):List Int:=fillL (blockHead epoch l.length++blockBody l) 256
theorem blockBytes_ok (e:Int)(l:List RecV)(h:l.length≤6):SecB (blockBytes e l):=by
  unfold blockBytes fillL SecB
  have:(blockHead e l.length++blockBody l).length=16+40*l.length:=by rw[List.length_append,blockHead_len,blockBody_len]
  refine⟨?_,((blockHead_isB e _).append (blockBody_isB l)).append (IsB.zeros _)⟩
  rw[List.length_append,this,List.length_replicate];omega
def blockOk (epoch:Int)(l:List RecV):Bool:=inB epoch 1 1073741824 && decide (1≤l.length) && decide (l.length≤6)
def blockE (epoch:Int)(l:List RecV):Option Nat:=if blockOk epoch l && l.all recOk then none else some 1
structure Lg where
  first:Int
  blocks:Int
  base:Int
  epoch:Int
  l:List RecV
  done:Nat
def Lg.last (L:Lg):Int:=L.base+L.l.length
def Lg.doneN (L:Lg):Int:=L.base+L.done
def Lg.room (L:Lg):Int:=max (min (L.blocks*6 - L.l.length) (1073741824 - L.last)) 0
structure Lg.Ok (L:Lg):Prop where
  first:0≤L.first∧L.first≤1000
  blocks:0≤L.blocks∧L.blocks≤1000
  base:0≤L.base∧L.base≤1073741824
  epoch:1≤L.epoch∧L.epoch≤1073741824
  len:(L.l.length:Int)≤L.blocks*6
  last:L.base+L.l.length≤1073741824
  done:L.done≤L.l.length
  recs : ∀r∈L.l,recOk r=true
def appendE (L:Lg)(r:RecV):Option Nat:=if recOk r then (if L.room<1 then some 8 else none) else some 1
def appendN (L:Lg)(r:RecV):Int:=if recOk r then (if L.room<1 then 0 else L.last+1) else 0
def appendL (L:Lg)(r:RecV):Lg:=if recOk r then (if L.room<1 then L else { L with l:=L.l++[r] }) else L
def syncE (d:Dsk):Option Nat:=if d.off then some 0 else if spendB d then none else some 0
def fastS (s:Sec):Sec:=⟨s.last,[]⟩
def syncD (d:Dsk):Dsk:=if d.off then d else if spendB d then { spendD d with l:=d.l.map fastS } else spendD d
def flushFrom (L:Lg):Nat→Nat→Dsk→Dsk×Option Nat
  | 0,_,d=>(d,none)
  | f+1,k,d=>
    if k*6<L.l.length then
      let b:=blockBytes L.epoch ((L.l.drop (k*6)).take 6)
      match writeE d (L.first+k) b with
      | none=>flushFrom L f (k+1) (writeD d (L.first+k) b)
      | some e=>(writeD d (L.first+k) b,some e)
    else (d,none)
def lflush (L:Lg)(d:Dsk):Lg×Dsk×Option Nat:=
  if L.done=L.l.length then (L,d,none)
  else match flushFrom L (L.l.length+1) (L.done / 6) d with
    | (d',some e)=>(L,d',some e)
    | (d',none)=>match syncE d' with
      | some e=>(L,syncD d',some e)
      | none=>({ L with done:=L.l.length },syncD d',none)
end Go.Proofs.YtaplpeoikebedaaGreatDoor.RecD
