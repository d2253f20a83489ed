/- Joined texts: FwdP, PageO. No condition but what each says. -/
import Derived.Test.YtaplpeoikebedaaGreatDoorY26
import Derived.Test.YtaplpeoikebedaaGreatDoorY20
import Derived.Test.YtaplpeoikebedaaGreatDoorY23
import Derived.Deep.RegionLaw
set_option maxHeartbeats 8000000
set_option maxRecDepth 100000
set_option linter.unusedVariables false
set_option linter.unusedSimpArgs false
namespace Go.Proofs.YtaplpeoikebedaaGreatDoor.FwdP
open Go.RowKit Go.Maps YtaplpeoikebedaaGreatDoorW.PrintWords YtaplpeoikebedaaGreatDoorW.PrintLast YtaplpeoikebedaaGreatDoorW.PrintMore
open See Mem Page PageR Disk DiskW RecD Wal Dirty Dirty2 SysD SysM FlushG StoreD StoreF TransT LockT LockU SpaceT WaitT FwdM
structure Kp (M:Nat→Prop) (w w':World):Prop where
  os:w'.os=w.os
  tape:w'.tape=w.tape
  output:w'.output=w.output
  size:w.heap.size≤w'.heap.size
  block : ∀k,k<w.heap.size→¬M k→w'.heap[k]? = w.heap[k]?
  ent : ∀k,k<w.heap.size→tag w k=169→w'.heap[k]? = w.heap[k]?
theorem Kp.refl (M:Nat→Prop)(w:World):Kp M w w:=⟨rfl,rfl,rfl,Nat.le_refl _,fun _ _ _=>rfl,fun _ _ _=>rfl⟩
theorem Kp.of_below {M:Nat→Prop}{w w':World}(h:Below w.heap.size w w'):Kp M w w':=⟨h.os,h.tape,h.output,h.size,fun k hk _=>h.block k hk,fun k hk _=>h.block k hk⟩
theorem Kp.of_frm {T:List Nat}{M:Nat→Prop}{w w':World}(h:Frm T M w w')(ht:169∉T):Kp M w w':=⟨h.os,h.tape,h.output,h.size,fun k hk hn=>h.block k hk fun hm=>absurd hm hn,fun k hk he=>h.block k hk fun _=>by rw[he];exact ht⟩
theorem Kp.wide {M M':Nat→Prop}{w w':World}(h:Kp M w w')(hm : ∀k,M k→M' k):Kp M' w w':=⟨h.os,h.tape,h.output,h.size,fun k hk hn=>h.block k hk fun h2=>hn (hm k h2),h.ent⟩
theorem Kp.transG {M:Nat→Prop}{w w1 w2:World}(h:Kp M w w1)(k:Kp (Gr M w w1) w1 w2):Kp M w w2:=
  ⟨k.os.trans h.os,k.tape.trans h.tape,k.output.trans h.output,Nat.le_trans h.size k.size,fun i hi hn=>(k.block i (Nat.lt_of_lt_of_le hi h.size) (fun hm=>by
    rcases hm with hm | ⟨a,_⟩
    · exact hn hm
    · omega)).trans (h.block i hi hn),fun i hi ht=>by
    have e:=h.ent i hi ht
    exact (k.ent i (Nat.lt_of_lt_of_le hi h.size) (by rw[tag_eq e];exact ht)).trans e⟩
theorem Kp.trans {M:Nat→Prop}{w w1 w2:World}(h:Kp M w w1)(k:Kp M w1 w2):Kp M w w2:=h.transG (k.wide fun _ h=>.inl h)
theorem Kp.step {M:Nat→Prop}{w w1 w2:World}(h:Kp M w w1)(k:Below w1.heap.size w1 w2):Kp M w w2:=h.trans (.of_below k)
theorem Kp.below {M:Nat→Prop}{w w':World}{B:Nat}(h:Kp M w w')(hM : ∀k,M k→B≤k)(hB:B≤w.heap.size):Below B w w':=
  ⟨h.os,h.tape,h.output,h.size,fun k hk=>h.block k (by omega) (fun hm=>by have:=hM k hm;omega)⟩
theorem Kp.at {M:Nat→Prop}{w w':World}(h:Kp M w w'){k:Nat}{o:Obj}(hk:w.heap[k]? = some o)(hn : ¬M k):w'.heap[k]? = some o:=(h.block k (heap_lt hk) hn).trans hk
def OutAll (M:Nat→Prop)(a:Nat→Addr):Prop := ∀i,i<18→¬M (gl i)∧¬M (a i).block
theorem OutAll.k {M:Nat→Prop}{a:Nat→Addr}(h:OutAll M a)(K:List Nat)(hK : ∀i∈K,i<18):OutK K M a:=fun i hi=>h i (hK i hi)
theorem OutAll.gr {M:Nat→Prop}{a:Nat→Addr}{w w':World}(h:OutAll M a)(hs:SentsAll w a):OutAll (Gr M w w') a:=fun i hi=>by
  obtain⟨h1,h2⟩:=h i hi
  have l1:gl i<w.heap.size:=World.block_lt_of_cell? _ _ (hs.cell i hi)
  obtain⟨c,t,hr⟩:=hs.row i hi
  have l2:=heap_lt hr
  refine⟨fun hm => ?_,fun hm => ?_⟩
  · rcases hm with hm | ⟨a1,_⟩
    · exact h1 hm
    · omega
  · rcases hm with hm | ⟨a1,_⟩
    · exact h2 hm
    · omega
theorem OutAll.sub {M M':Nat→Prop}{a:Nat→Addr}(h:OutAll M a)(hm : ∀k,M' k→M k):OutAll M' a:=fun i hi=>⟨fun h2=>(h i hi).1 (hm _ h2),fun h2=>(h i hi).2 (hm _ h2)⟩
theorem SentsAll.kp {M:Nat→Prop}{w w1:World}{a:Nat→Addr}(h:SentsAll w a)(hk:Kp M w w1)(ho:OutAll M a):SentsAll w1 a:=by
  refine⟨fun i hi => ?_,fun i hi => ?_,h.ne⟩
  · have hc:=h.cell i hi
    have hl:gl i<w.heap.size:=World.block_lt_of_cell? _ _ hc
    have hb:=hk.block (gl i) hl (ho i hi).1
    rw[←hc]
    simp only[World.cell?,hb]
  · obtain⟨c,t,hr⟩:=h.row i hi
    exact⟨c,t,hk.at hr (ho i hi).2⟩
def Cut (M:Nat→Prop)(n:Nat):Nat→Prop:=fun k=>M k∧k<n
theorem SecM.cut {M:Nat→Prop}{w:World}{u v:Value}{s:Sec}(h:SecM M w u v s):SecM (Cut M w.heap.size) w u v s:=by
  refine⟨h.fast,h.loose,fun k hk=>⟨h.low k hk,?_⟩⟩
  obtain⟨vs,h1,_⟩:=h.loose
  obtain⟨_,c,hc⟩:=ow_block h1 hk
  exact heap_lt hc
theorem DskM.cut {M:Nat→Prop}{w:World}{p:Nat}{d:Dsk}(h:DskM M w p d):DskM (Cut M w.heap.size) w p d:=by
  obtain⟨g,cap,rs,h⟩:=h
  refine⟨g,cap,rs,h.box,h.row,h.len,⟨h.mp,heap_lt h.box⟩,⟨h.mg,?_⟩,fun i r s hi hs=>SecM.cut (h.secs i r s hi hs),h.apart,h.ok,h.few⟩
  obtain⟨_,c,hc⟩:=ow_block h.row (k:=g) rfl
  exact heap_lt hc
theorem LogM.cut {M:Nat→Prop}{w:World}{lp dp:Nat}{v:Value}{L:Lg}(h:LogM M w lp dp v L):LogM (Cut M w.heap.size) w lp dp v L:=
  ⟨h.box,h.row,fun k hk=>⟨h.low k hk,by obtain⟨_,c,hc⟩:=ow_block h.row hk;exact heap_lt hc⟩,⟨h.mp,heap_lt h.box⟩,h.ok⟩
theorem TabM.cut {M:Nat→Prop}{w:World}{p:Nat}{cs:Array Value}{v:Value}{ds:List (Int×Int)}(h:TabM M w p cs v ds):TabM (Cut M w.heap.size) w p cs v ds:=
  ⟨h.box,h.at0,h.row,fun k hk=>⟨h.low k hk,by obtain⟨_,c,hc⟩:=ow_block h.row.1 hk;exact heap_lt hc⟩,⟨h.mp,heap_lt h.box⟩,h.rise⟩
theorem FrsP.cut {M:Nat→Prop}{w:World}{h:Value}{fs:List Pool1.Fr}{here:List Fp}(x:FrsP M w h fs here):FrsP (Cut M w.heap.size) w h fs here:=
  ⟨x.frs,x.eq,fun k hk=>⟨x.low k hk,by obtain⟨_,c,hc⟩:=ow_block x.frs.row hk;exact heap_lt hc⟩⟩
theorem SysM.cut {M:Nat→Prop}{w:World}{pp lp dp:Nat}{S:PSys}(h:SysM M w pp lp dp S):SysM (Cut M w.heap.size) w pp lp dp S:=by
  obtain⟨h1,⟨v,h2⟩,⟨t,hv,fs,h3,h4⟩,h5,h6,h7,h8⟩:=h
  exact⟨DskM.cut h1,⟨v,LogM.cut h2⟩,⟨t,hv,fs,TabM.cut h3,FrsP.cut h4⟩,h5,h6,h7,h8⟩
theorem FwM.cut {M:Nat→Prop}{w:World}{sp lp pp dp qp mp:Nat}{blocks frames:Int}{F:FS}(h:FwM M w sp lp pp dp qp mp blocks frames F):FwM (Cut M w.heap.size) w sp lp pp dp qp mp blocks frames F:=by
  obtain⟨⟨kv,tv,b1,b2,b3,b4,b5⟩,s,r,o,l1,l2,l3⟩:=h
  refine⟨⟨kv,tv,b1,b2,fun k hk=>⟨b3 k hk,?_⟩,b4,fun k hk=>⟨b5 k hk,?_⟩⟩,SysM.cut s,r,o,⟨l1,heap_lt b1⟩,⟨l2,heap_lt r⟩,⟨l3,?_⟩⟩
  · obtain⟨_,c,hc⟩:=ow_block b2.1 hk;exact heap_lt hc
  · obtain⟨_,c,hc⟩:=ow_block b4.1 hk;exact heap_lt hc
  · obtain⟨n,D,⟨es,cl,h1,_⟩,_⟩:=o
    exact heap_lt h1
theorem FwM.mono {M M':Nat→Prop}{w:World}{sp lp pp dp qp mp:Nat}{blocks frames:Int}{F:FS}(h:FwM M w sp lp pp dp qp mp blocks frames F)(hm : ∀k,M k→M' k):FwM M' w sp lp pp dp qp mp blocks frames F:=by
  obtain⟨⟨kv,tv,b1,b2,b3,b4,b5⟩,s,r,o,l1,l2,l3⟩:=h
  exact⟨⟨kv,tv,b1,b2,fun k hk=>hm k (b3 k hk),b4,fun k hk=>hm k (b5 k hk)⟩,s.mono hm,r,o,hm _ l1,hm _ l2,hm _ l3⟩
theorem SysM.out {M:Nat→Prop}{w w':World}{pp lp dp:Nat}{S:PSys}(h:SysM M w pp lp dp S)(hb : ∀k,k<w.heap.size→(M k∨tag w k∈dTags∨tag w k=169)→w'.heap[k]? = w.heap[k]?):SysM M w' pp lp dp S:=by
  obtain⟨h1,⟨v,h2⟩,⟨t,hv,fs,h3,h4⟩,h5,h6,h7,h8⟩:=h
  refine⟨h1.move fun k hk ht=>hb k hk (.inr (.inl ht)),⟨v,h2.move fun k hk _ hm=>hb k hk (.inl hm)⟩,⟨t,hv,fs,⟨?_,h3.at0,⟨ow_move h3.row.1 fun k hk => ?_,h3.row.2⟩,h3.low,h3.mp,h3.rise⟩,h4.move fun k hk=>⟨fun _ hm=>hb k hk (.inl hm),fun ht=>hb k hk (.inr (.inr ht))⟩⟩,h5,h6,h7,h8⟩
  · exact (hb pp (heap_lt h3.box) (.inl h3.mp)).trans h3.box
  · obtain⟨_,c,hc⟩:=ow_block h3.row.1 hk
    exact hb k (heap_lt hc) (.inl (h3.low k hk))
theorem FwM.out {M:Nat→Prop}{w w':World}{sp lp pp dp qp mp:Nat}{blocks frames:Int}{F:FS}(h:FwM M w sp lp pp dp qp mp blocks frames F)(hb : ∀k,k<w.heap.size→(M k∨tag w k∈dTags∨tag w k=169)→w'.heap[k]? = w.heap[k]?):FwM M w' sp lp pp dp qp mp blocks frames F:=by
  obtain⟨⟨kv,tv,b1,b2,b3,b4,b5⟩,s,r,o,l1,l2,l3⟩:=h
  refine⟨⟨kv,tv,(hb sp (heap_lt b1) (.inl l1)).trans b1,⟨ow_move b2.1 fun k hk => ?_,b2.2⟩,b3,⟨ow_move b4.1 fun k hk => ?_,b4.2⟩,b5⟩,SysM.out s hb,(hb qp (heap_lt r) (.inl l2)).trans r,?_,l1,l2,l3⟩
  · obtain⟨_,c,hc⟩:=ow_block b2.1 hk;exact hb k (heap_lt hc) (.inl (b3 k hk))
  · obtain⟨_,c,hc⟩:=ow_block b4.1 hk;exact hb k (heap_lt hc) (.inl (b5 k hk))
  · obtain⟨n,D,⟨es,cl,h1,h2⟩,h3⟩:=o
    exact⟨n,D,⟨es,cl,(hb mp (heap_lt h1) (.inl l3)).trans h1,h2⟩,h3⟩
theorem OfM.up {w:World}{mp:Nat}{m m':Int}{of:Int→Int}(h:OfM w mp m of)(hm:m≤m'):OfM w mp m' of:=by
  obtain⟨n,D,h1,h2,h3⟩:=h
  exact⟨n,D,h1,Int.le_trans h2 hm,h3⟩
def FwPost (M:Nat→Prop)(sp lp pp dp qp mp:Nat)(blocks frames:Int)(F:FS)(w w':World):Prop:=FwM (Gr M w w') w' sp lp pp dp qp mp blocks frames F∧Kp M w w'
section
variable {M:Nat→Prop}{sp lp pp dp qp mp:Nat}{blocks frames:Int}
theorem FwPost.refl {F:FS}{w:World}(h:FwM M w sp lp pp dp qp mp blocks frames F):FwPost M sp lp pp dp qp mp blocks frames F w w:=⟨FwM.mono h fun _ h=>.inl h,.refl _ _⟩
theorem FwPost.trans {F F':FS}{w w1 w2:World}(h:FwPost M sp lp pp dp qp mp blocks frames F w w1)(k:FwM (Gr M w w1) w1 sp lp pp dp qp mp blocks frames F→FwPost (Gr M w w1) sp lp pp dp qp mp blocks frames F' w1 w2):FwPost M sp lp pp dp qp mp blocks frames F' w w2:=by
  obtain⟨a,b⟩:=h
  obtain⟨c,d⟩:=k a
  exact⟨FwM.mono c fun j hj=>Gr.trans b.size d.size hj,b.transG d⟩
theorem FwPost.step {F:FS}{w w1 w2:World}(h:FwPost M sp lp pp dp qp mp blocks frames F w w1)(k:Below w1.heap.size w1 w2):FwPost M sp lp pp dp qp mp blocks frames F w w2:=
  ⟨FwM.mono (h.1.below k) fun j hj=>Gr.grow k.size hj,h.2.step k⟩
theorem FwPost.back {F:FS}{w w1 w2:World}(h:FwPost M sp lp pp dp qp mp blocks frames F w1 w2)(k:Below w.heap.size w w1):FwPost M sp lp pp dp qp mp blocks frames F w w2:=by
  refine⟨FwM.mono h.1 fun j hj => ?_,(Kp.of_below k).trans h.2⟩
  rcases hj with hj | ⟨a,b⟩
  · exact .inl hj
  · exact .inr ⟨Nat.le_trans k.size a,b⟩
theorem FwPost.wide {M':Nat→Prop}{F:FS}{w w':World}(h:FwPost M sp lp pp dp qp mp blocks frames F w w')(hm : ∀k,M k→M' k):FwPost M' sp lp pp dp qp mp blocks frames F w w':=
  ⟨FwM.mono h.1 fun j hj=>hj.imp (hm j) id,h.2.wide hm⟩
theorem FwM.txs {F:FS}{w:World}(h:FwM M w sp lp pp dp qp mp blocks frames F)(hr:Rising (kvT F.ts)) : ∃cs tv,TxM M w sp 8 118 cs tv F.ts F.most∧∀ts' most' w',F.most≤most'→TxPost M sp 8 118 cs ts' most' w w'→FwPost M sp lp pp dp qp mp blocks frames { F with ts:=ts',most:=most' } w w':=by
  obtain⟨⟨kv,tv,b1,b2,b3,b4,b5⟩,s,r,o,l1,l2,l3⟩:=h
  refine⟨_,tv,⟨b1,rfl,rfl,b4,b5,l1,hr,by decide⟩,fun ts' most' w' hmm ⟨v',t,hf⟩=>⟨⟨⟨kv,v',t.box,b2.frm hf (by decide),fun k hk=>.inl (b3 k hk),t.row,t.low⟩,?_,r.frm hf (by decide),OfM.up (o.frm hf (by decide)) hmm,.inl l1,.inl l2,.inl l3⟩,.of_frm hf (by decide)⟩⟩
  obtain⟨h1,⟨v,h2⟩,⟨u,hv,fs,h3,h4⟩,h5,h6,h7,h8⟩:=s
  exact SysM.mono ⟨h1.frm hf (by decide),⟨v,h2.frm hf (by decide)⟩,⟨u,hv,fs,TabM.frm h3 hf (by decide) (by decide),h4.frm hf (by decide) (by decide)⟩,h5,h6,h7,h8⟩ fun _ h=>.inl h
theorem FwM.lks {F:FS}{w:World}(h:FwM M w sp lp pp dp qp mp blocks frames F) : ∃cs kv,LkM M w sp 6 118 cs kv F.ks∧∀ks' w',LkPost M sp 6 118 cs ks' w w'→FwPost M sp lp pp dp qp mp blocks frames { F with ks:=ks' } w w':=by
  obtain⟨⟨kv,tv,b1,b2,b3,b4,b5⟩,s,r,o,l1,l2,l3⟩:=h
  refine⟨_,kv,⟨b1,rfl,b2,b3,l1,by decide⟩,fun ks' w' ⟨v',t,hf⟩=>⟨⟨⟨v',tv,t.box,t.row,t.low,b4.frm hf (by decide),fun k hk=>.inl (b5 k hk)⟩,?_,r.frm hf (by decide),o.frm hf (by decide),.inl l1,.inl l2,.inl l3⟩,.of_frm hf (by decide)⟩⟩
  obtain⟨h1,⟨v,h2⟩,⟨u,hv,fs,h3,h4⟩,h5,h6,h7,h8⟩:=s
  exact SysM.mono ⟨h1.frm hf (by decide),⟨v,h2.frm hf (by decide)⟩,⟨u,hv,fs,TabM.frm h3 hf (by decide) (by decide),h4.frm hf (by decide) (by decide)⟩,h5,h6,h7,h8⟩ fun _ h=>.inl h
theorem FwM.spc {F:FS}{w:World}(h:FwM M w sp lp pp dp qp mp blocks frames F){fr kp:Int}{w':World}(hs:SpM w' qp fr kp)(hf:Frm [193] M w w'):FwPost M sp lp pp dp qp mp blocks frames { F with free:=fr,kept:=kp } w w':=by
  obtain⟨⟨kv,tv,b1,b2,b3,b4,b5⟩,s,r,o,l1,l2,l3⟩:=h
  refine⟨⟨⟨kv,tv,hf.at b1 (.inl (by decide)),b2.frm hf (by decide),fun k hk=>.inl (b3 k hk),b4.frm hf (by decide),fun k hk=>.inl (b5 k hk)⟩,?_,hs,o.frm hf (by decide),.inl l1,.inl l2,.inl l3⟩,.of_frm hf (by decide)⟩
  obtain⟨h1,⟨v,h2⟩,⟨u,hv,fs,h3,h4⟩,h5,h6,h7,h8⟩:=s
  exact SysM.mono ⟨h1.frm hf (by decide),⟨v,h2.frm hf (by decide)⟩,⟨u,hv,fs,TabM.frm h3 hf (by decide) (by decide),h4.frm hf (by decide) (by decide)⟩,h5,h6,h7,h8⟩ fun _ h=>.inl h
theorem FwM.mp_ {F:FS}{w:World}(h:FwM M w sp lp pp dp qp mp blocks frames F){of:Int→Int}{w':World}(ho:OfM w' mp F.most of)(hg:w.grownBy w' (some mp)):FwPost M sp lp pp dp qp mp blocks frames { F with of:=of } w w':=by
  obtain⟨⟨kv,tv,b1,b2,b3,b4,b5⟩,s,r,o,l1,l2,l3⟩:=h
  have hm0:tag w mp=0:=by
    obtain⟨n,D,⟨es,cl,h1,_⟩,_⟩:=o
    unfold tag
    rw[h1]
  have hf:Frm [0] M w w':=(Frm.refl _ _ w).grown hg fun k hk hlt=>by cases hk;exact⟨l3,by rw[hm0];exact List.mem_cons_self⟩
  refine⟨⟨⟨kv,tv,hf.at b1 (.inl (by decide)),b2.frm hf (by decide),fun k hk=>.inl (b3 k hk),b4.frm hf (by decide),fun k hk=>.inl (b5 k hk)⟩,?_,r.frm hf (by decide),ho,.inl l1,.inl l2,.inl l3⟩,.of_frm hf (by decide)⟩
  obtain⟨h1,⟨v,h2⟩,⟨u,hv,fs,h3,h4⟩,h5,h6,h7,h8⟩:=s
  exact SysM.mono ⟨h1.frm hf (by decide),⟨v,h2.frm hf (by decide)⟩,⟨u,hv,fs,TabM.frm h3 hf (by decide) (by decide),h4.frm hf (by decide) (by decide)⟩,h5,h6,h7,h8⟩ fun _ h=>.inl h
theorem FwM.sy {F:FS}{w:World}(h:FwM M w sp lp pp dp qp mp blocks frames F){S':PSys}{w':World}(hs:SysM (Gr M w w') w' pp lp dp S')(hf:Frm sTurn M w w'):FwPost M sp lp pp dp qp mp blocks frames { F with S:=S' } w w':=by
  obtain⟨⟨kv,tv,b1,b2,b3,b4,b5⟩,s,r,o,l1,l2,l3⟩:=h
  exact⟨⟨⟨kv,tv,hf.at b1 (.inl (by decide)),b2.frm hf (by decide),fun k hk=>.inl (b3 k hk),b4.frm hf (by decide),fun k hk=>.inl (b5 k hk)⟩,hs,r.frm hf (by decide),o.frm hf (by decide),.inl l1,.inl l2,.inl l3⟩,.of_frm hf (by decide)⟩
theorem FwM.lg {F:FS}{w:World}(h:FwM M w sp lp pp dp qp mp blocks frames F){L':Lg}{w':World}(hl : ∃v,LogM (Gr M w w') w' lp dp v L')(hf:Frm lTurn M w w'):FwPost M sp lp pp dp qp mp blocks frames { F with S:={ F.S with l:=L' } } w w':=by
  obtain⟨a,b⟩:=sys_log h.sys hl hf
  exact FwM.sy h a b
end
theorem p2_kp {M:Nat→Prop}{w w':World}{v:Value}{es:List (Int×Int)}(h:P2 w 169 v es)(hk:Kp M w w'):P2 w' 169 v es:=
  ⟨ow_move h.1 fun k hj=>by
    obtain⟨_,c,hc⟩:=ow_block h.1 hj
    exact hk.ent k (heap_lt hc) (tag_of hc),h.2⟩
structure LB (M:Nat→Prop) (sp lp pp dp qp mp:Nat) (blocks frames:Int) (F:FS) (w V0:World) (R:Nat→Prop) (w3:World):Prop where
  f:FwM R w3 sp lp pp dp qp mp blocks frames F
  r : ∀k,R k→Gr M w w3 k
  nn : ∀j,w.heap.size≤j→j<V0.heap.size→¬R j
  k:Kp M w w3
  loc : ∀j,w.heap.size≤j→j<V0.heap.size→w3.heap[j]? = V0.heap[j]?
  sz:V0.heap.size≤w3.heap.size
section
variable {M:Nat→Prop}{sp lp pp dp qp mp:Nat}{blocks frames:Int}{F F':FS}{w V0 w3 w4:World}{R:Nat→Prop}
theorem LB.start (h:FwM M w sp lp pp dp qp mp blocks frames F)(hb:Below w.heap.size w V0):LB M sp lp pp dp qp mp blocks frames F w V0 (Cut M w.heap.size) V0:=
  ⟨(FwM.cut h).below hb,fun k hk=>.inl hk.1,fun j hj _ hc=>by have:=hc.2;omega,.of_below hb,fun _ _ _=>rfl,Nat.le_refl _⟩
theorem LB.below (h:LB M sp lp pp dp qp mp blocks frames F w V0 R w3)(hb:Below w3.heap.size w3 w4):LB M sp lp pp dp qp mp blocks frames F w V0 R w4:=
  ⟨h.f.below hb,fun k hk=>Gr.grow hb.size (h.r k hk),h.nn,h.k.step hb,fun j h1 h2=>(hb.block j (Nat.lt_of_lt_of_le h2 h.sz)).trans (h.loc j h1 h2),Nat.le_trans h.sz hb.size⟩
theorem LB.step (h:LB M sp lp pp dp qp mp blocks frames F w V0 R w3)(hp:FwPost R sp lp pp dp qp mp blocks frames F' w3 w4):LB M sp lp pp dp qp mp blocks frames F' w V0 (Gr R w3 w4) w4:=by
  obtain⟨f,k⟩:=hp
  have s1:=h.k.size
  have s2:=h.sz
  have s3:=k.size
  refine⟨f,fun j hj => ?_,fun j h1 h2 hc => ?_,?_,fun j h1 h2=>(k.block j (by omega) (h.nn j h1 h2)).trans (h.loc j h1 h2),by omega⟩
  · rcases hj with hj | ⟨c1,c2⟩
    · exact Gr.grow s3 (h.r j hj)
    · exact .inr ⟨by omega,c2⟩
  · rcases hc with hc | ⟨c1,_⟩
    · exact h.nn j h1 h2 hc
    · omega
  · refine⟨k.os.trans h.k.os,k.tape.trans h.k.tape,k.output.trans h.k.output,Nat.le_trans s1 s3,fun j hj hn => ?_,fun j hj ht => ?_⟩
    · refine (k.block j (by omega) fun hc => ?_).trans (h.k.block j hj hn)
      rcases h.r j hc with hc | ⟨c1,_⟩
      · exact hn hc
      · omega
    · have e:=h.k.ent j hj ht
      exact (k.ent j (by omega) (by rw[tag_eq e];exact ht)).trans e
theorem LB.post (h:LB M sp lp pp dp qp mp blocks frames F w V0 R w3):FwPost M sp lp pp dp qp mp blocks frames F w w3:=⟨FwM.mono h.f h.r,h.k⟩
theorem LB.at (h:LB M sp lp pp dp qp mp blocks frames F w V0 R w3){j:Nat}{o:Obj}(hj:V0.heap[j]? = some o)(h1:w.heap.size≤j):w3.heap[j]? = some o:=(h.loc j h1 (heap_lt hj)).trans hj
theorem LB.sents {a:Nat→Addr}(h:LB M sp lp pp dp qp mp blocks frames F w V0 R w3)(hs:SentsAll w a)(hO:OutAll M a):SentsAll w3 a∧OutAll R a:=
  ⟨SentsAll.kp hs h.k hO,OutAll.sub (OutAll.gr hO hs) h.r⟩
end
end Go.Proofs.YtaplpeoikebedaaGreatDoor.FwdP
namespace Go.Proofs.YtaplpeoikebedaaGreatDoor.PageO
open Go.RowKit YtaplpeoikebedaaGreatDoorW.PrintWords YtaplpeoikebedaaGreatDoorW.PrintLast YtaplpeoikebedaaGreatDoorW.PrintMore
open See Mem Clone Go.Proofs.YtaplpeoikebedaaGreatDoor.Cell Page PageB PageR PageL Dirty Dirty2 SysD Rw Del Ins2 StoreD PageM
attribute [local go_sem] max2_imax min2_imin max_two min_two
theorem clos_efind (pg fr n:Int)(w:World) :
    Calls Tryz.prog 183 #[.agg #[.int .i64 pg,.int .i64 fr],.int .i64 n] w fun e w'=>e = .returned (.int .i64 (cmpI pg n))∧Below w.heap.size w w':=by
  go_enter Tryz.func183,Tryz.ntmps183
  go_wp2_with fail
  refine (compare_calls pg n _).mono ?_
  rintro e w' ⟨rfl,rfl⟩
  go_wp2_with fail
  go_ret
  exact⟨by simp,below_alloc (Below.refl _ _) _⟩
theorem esearch_calls (v:Value)(ds:List (Int×Int))(n:Int)(w:World)(hp:P2 w 169 v ds)(hr:Rising ds) :
    Calls Tryz.prog 182 #[v,.int .i64 n,.func (.func 183) #[] #[]] w fun e w'=>e = .returned (.tuple #[.int .i64 (pos ds n:Nat),.bool (has ds n)])∧Below w.heap.size w w':=by
  obtain⟨A,cap,rfl,_⟩:=ow_slice hp.1
  obtain⟨l,hl⟩ : ∃l,ds.length=l:=⟨_,rfl⟩
  have HL:=Aside0.mk hl
  have HP:=Aside0.mk hp
  have HR:=Aside0.mk hr
  have hl5:l≤100000:=by rw[←hl];exact hp.2
  rw[hl]
  clear hp hr hl
  go_enter Tryz.func182,Tryz.ntmps182
  go_wp2_with fail
  go_loopg [9,10] (l+1) (fun kq v9 v10 w' => ∃i j:Int,v9 = .int .i64 i∧v10 = .int .i64 j∧Aside0 (0≤i∧i≤j∧j≤l∧(kq:Int)=j - i+1)∧Aside0 (∀(k:Nat) (d:Int×Int),(k:Int)<i→ds[k]? = some d→d.1<n)∧Aside0 (∀(k:Nat) (d:Int×Int),j≤(k:Int)→ds[k]? = some d→¬d.1<n)∧Aside0 (Below w.heap.size w w'))
  case atStart=>exact⟨0,l,rfl,rfl,⟨by omega,by omega,by omega,by omega⟩,⟨fun k d h=>by omega⟩,⟨fun k d h hd=>by have:=(List.getElem?_eq_some_iff.1 hd).1;have:=HL.out;omega⟩,⟨Below.refl _ _⟩⟩
  case round=>
    obtain⟨i,j,rfl,rfl,HI,HA,HZ,HB⟩:=hrel
    have hi0:0≤i:=HI.out.1
    have hj0:j≤100000:=by have:=HI.out;omega
    by_cases hlt:i<j
    · have hij:0≤i+j:=by omega
      have hij2:i+j≤200000:=by omega
      obtain⟨h,hh⟩ : ∃h,(i+j) / 2=h:=⟨_,rfl⟩
      have hh0:0≤h:=by omega
      have hhi:i≤h:=by omega
      have hhj:h<j:=by omega
      have hhl:h<l:=by have:=HI.out;omega
      have hhb:h≤100000:=by omega
      obtain⟨⟨pg,fr⟩,hd⟩ : ∃d,ds[h.toNat]? = some d:=⟨_,List.getElem?_eq_getElem (by have:=HL.out;omega)⟩
      obtain⟨g,rfl⟩ : ∃g,A=some ⟨g,0,none⟩:=by
        rcases HP.out.form with ⟨_,h0⟩ | ⟨g,c,hv,_⟩
        · rw[h0] at hd;simp at hd
        · injection hv with h1;exact⟨g,h1⟩
      have hcl:wr.cell? ⟨g,h.toNat*2,none⟩=some (.int .i64 pg)∧wr.cell? ⟨g,h.toNat*2+1,none⟩=some (.int .i64 fr):=by
        rcases (P2.below HP.out HB.out).form with ⟨_,h0⟩ | ⟨g',c,hv,hc,_⟩
        · rw[h0] at hd;simp at hd
        · injection hv with h1;injection h1 with h1;injection h1 with h1;subst h1;exact hc _ _ hd
      obtain⟨hd0,hd1⟩:=hcl
      have HD:=Aside0.mk hd
      have HHH:=Aside0.mk (And.intro hhi hhj)
      clear hd hhi hhj
      go_wp2_with fail
      refine (clos_efind pg fr n _).mono ?_
      rintro e w1 ⟨rfl,hb⟩
      replace HB:=Aside0.mk (below_step HB.out hb)
      clear hb hd0 hd1
      by_cases hc:pg<n
      · have hq:decide (cmpI pg n<0)=true:=by unfold cmpI;rw[if_pos hc];rfl
        have HC:=Aside0.mk hc
        clear hc
        go_wp2_with fail
        go_roundg (gk - (h+1 - i).toNat)
        case measure=>have:=HI.out;have:=HHH.out;omega
        case rel=>
          refine⟨h+1,j,rfl,rfl,⟨by omega,by have:=HHH.out;omega,by have:=HI.out;omega,by have:=HI.out;have:=HHH.out;omega⟩,⟨fun k d hk hd => ?_⟩,HZ,HB⟩
          rcases (show (k:Int)<h∨k=h.toNat by omega) with h1 | h1
          · obtain⟨hk1,hk2⟩:=List.getElem?_eq_some_iff.1 hd
            obtain⟨hg1,hg2⟩:=List.getElem?_eq_some_iff.1 HD.out
            have:=List.pairwise_iff_getElem.1 HR.out k h.toNat hk1 hg1 (by omega)
            rw[hk2,hg2] at this
            have hc:=HC.out
            simp only at this
            omega
          · subst h1
            rw[HD.out] at hd
            injection hd with hd
            subst hd
            exact HC.out
      · have hq:decide (cmpI pg n<0)=false:=by unfold cmpI;rw[if_neg hc];split<;>rfl
        have HC:=Aside0.mk hc
        clear hc
        go_wp2_with fail
        go_roundg (gk - (j - h).toNat)
        case measure=>have:=HI.out;have:=HHH.out;omega
        case rel=>
          refine⟨i,h,rfl,rfl,⟨by omega,by have:=HHH.out;omega,by omega,by have:=HI.out;have:=HHH.out;omega⟩,HA,⟨fun k d hk hd => ?_⟩,HB⟩
          rcases (show h<(k:Int)∨k=h.toNat by omega) with h1 | h1
          · obtain⟨hk1,hk2⟩:=List.getElem?_eq_some_iff.1 hd
            obtain⟨hg1,hg2⟩:=List.getElem?_eq_some_iff.1 HD.out
            have:=List.pairwise_iff_getElem.1 HR.out h.toNat k hg1 hk1 (by omega)
            rw[hk2,hg2] at this
            have hc:=HC.out
            simp only at this
            omega
          · subst h1
            rw[HD.out] at hd
            injection hd with hd
            subst hd
            exact HC.out
    · have HIJ:=Aside0.mk (show i=j by have:=HI.out;omega)
      have HPOS:=Aside0.mk (show ((pos ds n:Nat):Int)=i by
        rw[pos_eq ds n i.toNat (by have:=HI.out;have:=HL.out;omega) (fun k d hk hd=>HA.out k d (by omega) hd) (fun d hd=>HZ.out i.toNat d (by have:=HIJ.out;omega) hd)]
        omega)
      by_cases hil:i<l
      · obtain⟨⟨pg,fr⟩,hd⟩ : ∃d,ds[i.toNat]? = some d:=⟨_,List.getElem?_eq_getElem (by have:=HL.out;omega)⟩
        obtain⟨g,rfl⟩ : ∃g,A=some ⟨g,0,none⟩:=by
          rcases HP.out.form with ⟨_,h0⟩ | ⟨g,c,hv,_⟩
          · rw[h0] at hd;simp at hd
          · injection hv with h1;exact⟨g,h1⟩
        have hcl:wr.cell? ⟨g,i.toNat*2,none⟩=some (.int .i64 pg)∧wr.cell? ⟨g,i.toNat*2+1,none⟩=some (.int .i64 fr):=by
          rcases (P2.below HP.out HB.out).form with ⟨_,h0⟩ | ⟨g',c,hv,hc,_⟩
          · rw[h0] at hd;simp at hd
          · injection hv with h1;injection h1 with h1;injection h1 with h1;subst h1;exact hc _ _ hd
        obtain⟨hd0,hd1⟩:=hcl
        have HHAS:=Aside0.mk (show has ds n=(cmpI pg n == 0) by
          unfold has
          rw[show pos ds n=i.toNat from by have:=HPOS.out;omega,hd]
          have hz:=HZ.out i.toNat _ (by have:=HIJ.out;omega) hd
          simp only at hz
          unfold cmpI
          rw[if_neg hz]
          by_cases h:n<pg
          · rw[if_pos h];simp;omega
          · rw[if_neg h];simp;omega)
        clear hd
        have hlt2:decide (i<(l:Int))=true:=decide_eq_true hil
        go_wp2_with fail
        refine (clos_efind pg fr n _).mono ?_
        rintro e w1 ⟨rfl,hb⟩
        replace HB:=Aside0.mk (below_step HB.out hb)
        clear hb hd0 hd1
        go_wp2_with fail
        exact bodyPost_ret (v:=.tuple #[.int .i64 i,.bool (cmpI pg n == 0)]) (by simp[results,Tryz.results182,go_sem]) rfl ⟨by rw[HPOS.out,HHAS.out],HB.out⟩
      · have HHAS:=Aside0.mk (show has ds n=false by
          unfold has
          rw[show pos ds n=i.toNat from by have:=HPOS.out;omega,List.getElem?_eq_none (by have:=HL.out;omega)])
        go_wp2_with fail
        exact bodyPost_ret (v:=.tuple #[.int .i64 i,.bool false]) (by simp[results,Tryz.results182,go_sem]) rfl ⟨by rw[HPOS.out,HHAS.out],HB.out⟩
theorem efind_calls (lsn:Int)(v:Value)(es:List (Int×Int))(n:Int)(w:World)(hp:P2 w 169 v es)(hr:Rising es) :
    Calls Tryz.prog 126 #[.agg #[.int .i64 lsn,v],.int .i64 n] w fun e w'=>e = .returned (.tuple #[.int .i64 (pos es n:Nat),.bool (has es n)])∧Below w.heap.size w w':=by
  have HP:=Aside0.mk hp
  have HR:=Aside0.mk hr
  obtain⟨A,cap,hv,_⟩:=ow_slice hp.1
  obtain⟨l,hl⟩ : ∃l,es.length=l:=⟨_,rfl⟩
  rw[hl] at hv
  clear hp hr hl
  subst hv
  go_enter Tryz.func126,Tryz.ntmps126
  go_wp2_with fail
  refine (esearch_calls (.slice A l cap) es n _ (HP.out.below (by repeat (first | exact Below.refl _ _ | apply below_drew1 | apply below_alloc))) HR.out).mono ?_
  rintro e w1 ⟨rfl,hb⟩
  have HB:=Aside0.mk (below_step (below_alloc (Below.refl w.heap.size w) (.cells #[.int .i64 lsn,.slice A l cap] 74)) hb)
  clear hb
  go_wp2_with fail
  exact bodyPost_ret (v:=.tuple #[.int .i64 (pos es n:Nat),.bool (has es n)]) (by simp[results,Tryz.results126,go_sem]) rfl ⟨rfl,HB.out⟩
theorem eget_calls (lsn:Int)(v:Value)(es:List (Int×Int))(n:Int)(w:World)(hp:P2 w 169 v es)(hr:Rising es) :
    Calls Tryz.prog 70 #[.agg #[.int .i64 lsn,v],.int .i64 n] w fun e w'=>e = .returned (.tuple #[.int .i64 (fromOf es n),.bool (has es n)])∧Below w.heap.size w w':=by
  have HP:=Aside0.mk hp
  have HR:=Aside0.mk hr
  have HFIND:=Aside0.mk (fun (W:World) (hb:Below w.heap.size w W)=>efind_calls lsn v es n W (hp.below hb) hr)
  obtain⟨A,cap,hv,_⟩:=ow_slice hp.1
  obtain⟨l,hl⟩ : ∃l,es.length=l:=⟨_,rfl⟩
  have HL:=Aside0.mk hl
  rw[hl] at hv
  clear hp hr hl
  subst hv
  obtain⟨k,hk⟩ : ∃k:Int,((pos es n:Nat):Int)=k:=⟨_,rfl⟩
  cases hh:has es n with
  | false=>
    have HF:=Aside0.mk (show fromOf es n=0 by unfold fromOf;rw[hh];rfl)
    have HFD':=Aside0.mk (fun (W:World) (hb:Below w.heap.size w W)=>by have h:=HFIND.out W hb;rw[hh,hk] at h;exact h)
    clear hh hk HFIND
    go_enter Tryz.func70,Tryz.ntmps70
    go_wp2_with fail
    refine (HFD'.out _ (by repeat (first | exact Below.refl _ _ | apply below_drew1 | apply below_alloc))).mono ?_
    rintro e w1 ⟨rfl,hb⟩
    have HB:=Aside0.mk (below_step (below_alloc (Below.refl w.heap.size w) (.cells #[.int .i64 lsn,.slice A l cap] 74)) hb)
    clear hb
    go_wp2_with fail
    exact bodyPost_ret (v:=.tuple #[.int .i64 0,.bool false]) (by simp[results,Tryz.results70,go_sem]) rfl ⟨by rw[HF.out],HB.out⟩
  | true=>
    obtain⟨fr,hd⟩:=pos_has hh
    have HF:=Aside0.mk (show fromOf es n=fr by unfold fromOf;rw[hh,hd];rfl)
    have HFD':=Aside0.mk (fun (W:World) (hb:Below w.heap.size w W)=>by have h:=HFIND.out W hb;rw[hh,hk] at h;exact h)
    have hlt:=(List.getElem?_eq_some_iff.1 hd).1
    have hk0:0≤k:=by omega
    have hkl:k<(l:Int):=by have:=HL.out;omega
    have hkn:k.toNat=pos es n:=by omega
    have HD:=Aside0.mk (show es[k.toNat]? = some (n,fr) by rw[hkn];exact hd)
    clear hh hk hd hlt hkn HFIND
    go_enter Tryz.func70,Tryz.ntmps70
    go_wp2_with fail
    refine (HFD'.out _ (by repeat (first | exact Below.refl _ _ | apply below_drew1 | apply below_alloc))).mono ?_
    rintro e w1 ⟨rfl,hb⟩
    have HB:=Aside0.mk (below_step (below_alloc (Below.refl w.heap.size w) (.cells #[.int .i64 lsn,.slice A l cap] 74)) hb)
    have HBX:=Aside0.mk (show w1.heap[w.heap.size]? = some (.cells #[.int .i64 lsn,.slice A l cap] 74 (0,0)) from (hb.block w.heap.size (by simp)).trans (heap_alloc_new w _))
    have q1:w1.cell? ⟨w.heap.size,1,none⟩=some (.slice A l cap):=by simp[World.cell?,HBX.out]
    rcases (P2.below HP.out HB.out).form with ⟨_,h0⟩ | ⟨g,c,hv,hcl,_⟩
    · have:=HL.out;rw[h0] at this;simp at this;omega
    · injection hv with hv1 hv2 hv3
      subst hv1
      obtain⟨hc0,hc1⟩:=hcl _ _ HD.out
      clear hb hcl
      go_wp2_with fail
      exact bodyPost_ret (v:=.tuple #[.int .i64 fr,.bool true]) (by simp[results,Tryz.results70,go_sem]) rfl ⟨by rw[HF.out],HB.out⟩
theorem place_calls (key P:Int)(h0:0≤key)(h1:key<1048576)(h2:1≤P)(h3:P≤1000)(w:World) :
    Calls Tryz.prog 125 #[.int .i64 key,.int .i64 P] w fun e w'=>e = .returned (.int .i64 (placeOf key P))∧w=w':=by
  have hm:imax P 1=P:=by unfold imax;split<;>omega
  have hP : ¬P=0:=by omega
  have hin:=placeOf_in key h2
  have hpl:placeOf key P=1+key*2654435761 % 4294967296 / 65536 % P:=by
    unfold placeOf
    rw[show max P 1=P by omega]
  have hww:wrap64 (1+key*2654435761 % 4294967296 / 65536 % P)=placeOf key P:=by
    rw[←hpl]
    unfold wrap64
    omega
  have HW:=Aside0.mk hww
  clear hpl hww hin
  go_enter Tryz.func125,Tryz.ntmps125
  go_wp2
  go_ret
  exact⟨by rw[←HW.out];simp,rfl⟩
theorem clone_p2 {w w1 W:World}{v:Value}{es:List (Int×Int)}(hp:P2 w 169 v es)(hb:Below w.heap.size w w1)(h1:Below w1.heap.size w1 W) :
    Calls Tryz.prog 146 #[v] W fun e w' => ∃A2 c2,e = .returned (.slice A2 es.length c2)∧(w'.ownsRow w1.heap.size 169 2 (.slice A2 es.length c2) es.length (cells2 es))∧Below w1.heap.size w1 w':=by
  refine (clone_entries v es.length (cells2 es) W (P2.rd ((hp.below hb).below h1)) (cells2_one es)).mono ?_
  rintro e w2 ⟨v2,rfl,ho,hb2⟩
  obtain⟨A2,c2,rfl,_⟩:=ow_slice ho
  exact⟨A2,c2,rfl,ow_base ho h1.size,below_step h1 hb2⟩
theorem clone_p2_keep {w w1 W:World}{v:Value}{es:List (Int×Int)}{b:Nat}{o:Obj}(hp:P2 w 169 v es)(hb:Below w.heap.size w w1)(h1:Below w1.heap.size w1 W)(hx:W.heap[b]? = some o) :
    Calls Tryz.prog 146 #[v] W fun e w' => ∃A2 c2,e = .returned (.slice A2 es.length c2)∧(w'.ownsRow w1.heap.size 169 2 (.slice A2 es.length c2) es.length (cells2 es))∧Below w1.heap.size w1 w'∧w'.heap[b]? = some o:=by
  refine (clone_entries v es.length (cells2 es) W (P2.rd ((hp.below hb).below h1)) (cells2_one es)).mono ?_
  rintro e w2 ⟨v2,rfl,ho,hb2⟩
  obtain⟨A2,c2,rfl,_⟩:=ow_slice ho
  exact⟨A2,c2,rfl,ow_base ho h1.size,below_step h1 hb2,(hb2.block b (heap_lt hx)).trans hx⟩
theorem pg_cells {w:World}{b:Nat}{x0 x1:Value}(h:w.heap[b]? = some (.cells #[x0,x1] 74 (0,0))):w.cell? ⟨b,0,none⟩=some x0∧w.cell? ⟨b,1,none⟩=some x1∧w.frozen? ⟨b,0,none⟩=false∧w.frozen? ⟨b,1,none⟩=false:=by
  refine⟨?_,?_,?_,?_⟩<;>simp[World.cell?,World.frozen?,h]
end Go.Proofs.YtaplpeoikebedaaGreatDoor.PageO
