/- Joined texts: PoolG. No condition but what each says. -/
import Derived.Test.YtaplpeoikebedaaGreatDoorY16
set_option maxHeartbeats 8000000
set_option maxRecDepth 100000
set_option linter.unusedVariables false
set_option linter.unusedSimpArgs false
namespace Go.Proofs.YtaplpeoikebedaaGreatDoor.PoolG
open Go.RowKit YtaplpeoikebedaaGreatDoorW.PrintWords YtaplpeoikebedaaGreatDoorW.PrintLast YtaplpeoikebedaaGreatDoorW.PrintMore
open See Mem Clone Go.Proofs.YtaplpeoikebedaaGreatDoor.Cell Page PageB PageR Disk DiskW DiskS RecD Pool1 Pool3 Wal WalF Dirty Dirty2 SysD SysM PoolF PoolE Del
attribute [local go_sem] max2_imax min2_imin max_two min_two
def FltV (a:Nat→Addr)(w:World):Flt→Value→Prop
  | .fine,v=>v = .nilIface
  | .bare k,v=>v = .iface 333 (.pointer (some (a k)))
  | .at pos k,v => ∃b,v = .iface 165 (.pointer (some ⟨b,0,none⟩))∧w.heap[b]? = some (.cells #[.int .i64 pos,.iface 333 (.pointer (some (a k)))] 167 (0,0))
def getTail (S:PSys)(n:Int):PSys×(Int×List (Int×Int))×Flt:=
  match readE S.d n with
  | some e=>(S,(0,[]),.bare e)
  | none=>
    match readPage (readV S.d n) with
    | none=>(S,(0,[]),.at n 6)
    | some g=>({ S with here:=S.here++[⟨n,g.1,g.2⟩] },g,.fine)
theorem getS_found {S:PSys}{n hint:Int}{f:Fp}(h:findP S.here n=some f):getS S n hint=(S,(f.lsn,f.es),.fine):=by unfold getS;rw[h]
theorem getS_low {S:PSys}{n hint:Int}(h:findP S.here n=none)(hn:n<1):getS S n hint=(S,(0,[]),.bare 1):=by unfold getS;rw[h];simp only[hn,if_true]
theorem getS_room {S:PSys}{n hint:Int}(h:findP S.here n=none)(hn : ¬n<1)(hr : ¬S.frames≤S.here.length):getS S n hint=getTail S n:=by
  unfold getS getTail
  rw[h]
  simp only[hn,hr,if_false]
  cases readE S.d n with
  | some e=>rfl
  | none=>cases readPage (readV S.d n)<;>rfl
theorem getS_evict {S S':PSys}{n hint:Int}(h:findP S.here n=none)(hn : ¬n<1)(hr:S.frames≤S.here.length)(he:evictS S hint=(S',none)):getS S n hint=getTail S' n:=by
  unfold getS getTail
  rw[h]
  simp only[hn,hr,if_true,if_false,he]
  cases readE S'.d n with
  | some e=>rfl
  | none=>cases readPage (readV S'.d n)<;>rfl
theorem evictS_here {S:PSys}{hint:Int}(hh:HereOk S.here)(hr:S.frames≤S.here.length)(hf:1≤S.frames):((evictS S hint).2=none→(evictS S hint).1.here.length≤7)∧((evictS S hint).2=none→∀n,findP S.here n=none→findP (evictS S hint).1.here n=none):=by
  have h8:=hh.few
  have hk:evictK S hint<S.here.length:=by unfold evictK;exact Nat.mod_lt _ (by omega)
  unfold evictS
  rw[List.getElem?_eq_getElem hk]
  simp only
  have h1:=(flushS_here S (S.here[evictK S hint]).n).1
  obtain⟨⟨S1,o⟩,hq⟩ : ∃q,flushS S (S.here[evictK S hint]).n=q:=⟨_,rfl⟩
  rw[hq] at h1 ⊢
  cases o with
  | some e=>exact⟨fun h=>(Option.some_ne_none _ h).elim,fun h=>(Option.some_ne_none _ h).elim⟩
  | none=>
    simp only at h1 ⊢
    refine⟨fun _ => ?_,fun _ n hn => ?_⟩
    · rw[List.length_eraseIdx,h1];split<;>omega
    · unfold findP at hn ⊢
      rw[List.find?_eq_none] at hn ⊢
      intro f hf
      exact hn f (by rw[←h1];exact (List.eraseIdx_sublist _ _).mem hf)
theorem getS_err {S S':PSys}{n hint:Int}{e:Nat}(h:findP S.here n=none)(hn : ¬n<1)(hr:S.frames≤S.here.length)(he:evictS S hint=(S',some e)):getS S n hint=(S',(0,[]),.bare e):=by
  unfold getS
  rw[h]
  simp only[hn,hr,if_true,if_false,he]
def PGetPost (a:Nat→Addr)(M:Nat→Prop)(pp lp dp:Nat)(S:PSys)(n hint:Int)(w:World)(e:Ending)(w':World):Prop:=
  ∃sl ev,e = .returned (.tuple #[.agg #[.int .i64 (getS S n hint).2.1.1,sl],ev])∧P2 w' 169 sl (getS S n hint).2.1.2∧FltV a w' (getS S n hint).2.2 ev∧SysM (Gr M w w') w' pp lp dp (getS S n hint).1∧Frm sTurn M w w'
structure Two (b:Nat) (w w':World):Prop where
  os:w'.os=w.os
  tape:w'.tape=w.tape
  output:w'.output=w.output
  size:w'.heap.size=w.heap.size
  block : ∀k,k≠b→w'.heap[k]? = w.heap[k]?
theorem Two.refl (b:Nat)(w:World):Two b w w:=⟨rfl,rfl,rfl,rfl,fun _ _=>rfl⟩
theorem Two.drew {b:Nat}{w w':World}(h:Two b w w'):Two b w w'.drew:=⟨h.os,h.tape,h.output,h.size,h.block⟩
theorem Two.set {b:Nat}{w w':World}(h:Two b w w')(i:Nat)(v:Value):Two b w (w'.setCell ⟨b,i,none⟩ v):=
  ⟨h.os,h.tape,h.output,by rw[←h.size];simp[World.setCell],fun k hk=>by rw[Below.heap_setCell _ _ _ _ (by exact hk)];exact h.block k hk⟩
theorem Two.sys {M:Nat→Prop}{b:Nat}{w0 w w':World}{pp lp dp:Nat}{S:PSys}{c:Array Value}{f:Nat×Nat}(h:Two b w w')(x:SysM (Gr M w0 w) w pp lp dp S)(hb:w.heap[b]? = some (.cells c 74 f)):SysM (Gr M w0 w') w' pp lp dp S:=by
  have hf:Frm [74] (fun k=>k=b) w w':=⟨h.os,h.tape,h.output,Nat.le_of_eq h.size.symm,fun k hk hn=>h.block k (fun e=>by subst e;exact hn rfl (by rw[tag_of hb];decide))⟩
  have hm : ∀k,Gr M w0 w k→Gr M w0 w' k:=fun k hk=>by
    rcases hk with hk | ⟨h1,h2⟩
    · exact .inl hk
    · exact .inr ⟨h1,by rw[h.size];exact h2⟩
  obtain⟨x1,⟨v,x2⟩,⟨t,hv,fs,x3,x4⟩,x5,x6,x7,x8⟩:=x
  exact⟨(x1.frm hf (by decide)).mono hm,⟨v,(x2.frm hf (by decide)).mono hm⟩,⟨t,hv,fs,(TabM.frm x3 hf (by decide) (by decide)).mono hm,(x4.frm hf (by decide) (by decide)).mono hm⟩,x5,x6,x7,x8⟩
theorem Two.frm {T:List Nat}{M:Nat→Prop}{b:Nat}{w0 w w':World}(h:Two b w w')(hf:Frm T M w0 w)(hb:w0.heap.size≤b):Frm T M w0 w':=
  ⟨h.os.trans hf.os,h.tape.trans hf.tape,h.output.trans hf.output,by rw[h.size];exact hf.size,fun k hk hn=>(h.block k (by omega)).trans (hf.block k hk hn)⟩
theorem readV_ok {M:Nat→Prop}{w:World}{p:Nat}{d:Dsk}{i:Int}(h:DskM M w p d)(he:readE d i=none):SecB (readV d i):=by
  obtain⟨g,cap,rs,h⟩:=h
  cases ho:d.off with
  | true=>rw[(readE_off ho).1] at he;cases he
  | false=>
    cases hi:inD d i with
    | false=>rw[(readE_out ho hi).1] at he;cases he
    | true=>
      obtain⟨h1,h2⟩:=inD_true hi
      have hl:i.toNat<d.l.length:=by omega
      rw[(readE_in ho hi (List.getElem?_eq_getElem hl)).2]
      exact Sec.last_ok (h.ok _ (List.getElem_mem hl))
theorem here_app {here:List Fp}{n lsn:Int}{es:List (Int×Int)}(h:HereOk here)(h7:here.length≤7)(hn:findP here n=none)(hk:pageOk lsn es=true):HereOk (here++[⟨n,lsn,es⟩]):=by
  refine⟨by simp;omega,?_,?_⟩
  · rw[List.pairwise_append]
    refine⟨h.once,List.pairwise_singleton _ _,fun a ha b hb e => ?_⟩
    rw[List.mem_singleton] at hb
    subst hb
    unfold findP at hn
    rw[List.find?_eq_none] at hn
    exact hn a ha (decide_eq_true e)
  · intro f hf
    rcases List.mem_append.1 hf with hf | hf
    · exact h.ok f hf
    · rw[List.mem_singleton] at hf
      subst hf
      exact hk
theorem read_pageOk {bs:List Int}{lsn:Int}{es:List (Int×Int)}(h:readPage bs=some (lsn,es)):pageOk lsn es=true:=by
  unfold readPage at h
  split at h
  · rename_i hc
    injection h with h
    injection h with h1 h2
    subst h1 h2
    rw[Bool.and_eq_true] at hc
    exact hc.1
  · cases h
theorem heap_new {W:World}{o:Obj}{b:Nat}(hb:W.heap.size=b):(W.alloc o).drew.heap[b]? = some o:=by subst hb;exact heap_alloc_new W o
theorem frs_pool {M:Nat→Prop}{w:World}{h:Value}{fs:List Fr}{here:List Fp}{pp:Nat}{c:Array Value}{v:Value}{t:List (Int×Int)}(hh:FrsP M w h fs here)(ht:TabM M w pp c v t):h.ownBlock≠some pp:=fun e=>by
  obtain⟨_,c,hc⟩:=ow_block hh.frs.row e
  rw[ht.box] at hc
  injection hc with hc;injection hc with _ hc
  exact absurd hc (by decide)
theorem page_cells {w:World}{b:Nat}{u v:Value}(h:w.heap[b]? = some (.cells #[u,v] 74 (0,0))):w.cell? ⟨b,0,none⟩=some u∧w.cell? ⟨b,1,none⟩=some v∧w.frozen? ⟨b,0,none⟩=false∧w.frozen? ⟨b,1,none⟩=false:=by
  refine⟨?_,?_,?_,?_⟩<;>simp[World.cell?,World.frozen?,h]
theorem sys_alloc {M:Nat→Prop}{w0 w:World}{pp lp dp:Nat}{S:PSys}(x:SysM (Gr M w0 w) w pp lp dp S)(o:Obj):SysM (Gr M w0 (w.alloc o)) (w.alloc o) pp lp dp S:=
  (x.below (below_alloc (Below.refl _ _) _)).mono fun k hk=>by
    rcases hk with hk | ⟨h1,h2⟩
    · exact .inl hk
    · exact .inr ⟨h1,by simp;omega⟩
theorem Two.p2 {b:Nat}{w w':World}{v:Value}{es:List (Int×Int)}{c:Array Value}{f:Nat×Nat}(h:Two b w w')(hp:P2 w 169 v es)(hb:w.heap[b]? = some (.cells c 74 f)):P2 w' 169 v es:=
  ⟨ow_move hp.1 fun k hk=>h.block k fun e=>by
    subst e
    obtain⟨_,c2,hc⟩:=ow_block hp.1 hk
    rw[hc] at hb
    injection hb with hb;injection hb with _ hb
    exact absurd hb (by decide),hp.2⟩
theorem info_frame:(Tryz.prog.info? 157).map (fun i=>(i.zero,i.size,i.bytes))=some (some (.agg #[.int .i64 0,.int .i64 0,.slice none 0 0]),3,40):=by kernel_rfl
theorem len40 {n:Nat}(h:n≤100000):(n+1)*40≤140737488355328:=by omega
theorem news_fr (W:World)(b:Nat)(hb:W.heap.size=b)(n l:Int)(v:Value)(e:Nat) : ∀j x,[Value.int .i64 n,Value.int .i64 l,v][j]? = some x→(W.alloc (.cells #[.int .i64 n,.int .i64 l,v] e)).cell? ((⟨b,0,none⟩:Addr).add j)=some x:=by
  subst hb
  exact World.news_of_block (cs:=#[.int .i64 n,.int .i64 l,v]) (heap_alloc_new W _)
theorem one_fr (n l:Int)(A:Option Addr)(m c:Nat) : ∀u∈[Value.int .i64 n,Value.int .i64 l,Value.slice A m c],u.oneCell'=true:=by
  intro u hu
  simp at hu
  rcases hu with rfl | rfl | rfl<;>rfl
theorem get_pool (a:Nat→Addr)(M:Nat→Prop)(pp lp dp:Nat)(S:PSys)(n hint:Int)(w:World)(hs:Sents w a)(hO:Out M a)(x:SysM M w pp lp dp S)(hlo:LooseLe S.d 40000)(hb1 : -9223372036854775808≤hint)(hb2:hint≤9223372036854775807) :
    Calls Tryz.prog 37 #[.pointer (some ⟨pp,0,none⟩),.int .i64 n,.int .i64 hint] w (PGetPost a M pp lp dp S n hint w):=by
  obtain⟨t,h,fs,ht,hh⟩:=x.pool
  have hg1:w.cell? ⟨6,0,none⟩=some (.iface 333 (.pointer (some (a 1)))):=hs.cell 1 (by decide)
  have hgl1:6<w.heap.size:=World.block_lt_of_cell? _ _ hg1
  have HS:=Aside0.mk hs
  have HO:=Aside0.mk hO
  have HX:=Aside0.mk x
  have HT:=Aside0.mk ht
  have HH:=Aside0.mk hh
  have HLO:=Aside0.mk hlo
  have HIF:=Aside0.mk (idx_find n fs 0)
  obtain⟨A,cap,hv,_⟩:=ow_slice hh.frs.row
  obtain⟨fl,hfl⟩ : ∃fl,fs.length=fl:=⟨_,rfl⟩
  have hf8:fl≤8:=by rw[←hfl];exact hh.frs.few
  have HFLN:=Aside0.mk hfl
  have HLEN:=Aside0.mk (show S.here.length=fl by rw[←hh.eq,List.length_map,hfl])
  rw[hfl] at hv
  have hpl:=heap_lt ht.box
  have HAT:=Aside0.mk (fun W hf hc=>at_pool pp h fs n W hf hc)
  clear hs hO x ht hh hlo hfl hg1
  -- a page of zeros that is returned
  have HBAD:=Aside0.mk (show ∀(W W':World) (S':PSys) (o:Flt) (ev:Value),getS S n hint=(S',(0,[]),o)→SysM (Gr M w W) W pp lp dp S'→Frm sTurn M w W→(∃c f,W.heap[w.heap.size]? = some (.cells c 74 f))→Two w.heap.size W W'→FltV a W' o ev→PGetPost a M pp lp dp S n hint w (.returned (.tuple #[.agg #[.int .i64 0,.slice none 0 0],ev])) W' from fun W W' S' o ev h1 h2 h3 ⟨c,f,h4⟩ h5 h6=>
    ⟨.slice none 0 0,ev,by rw[h1],by rw[h1];exact P2.nil _ _,by rw[h1];exact h6,by rw[h1];exact h5.sys h2 h4,h5.frm h3 (Nat.le_refl _)⟩)
  have HBAD2:=Aside0.mk (show ∀(W W' W'':World) (S':PSys) (o:Flt) (ev:Value),getS S n hint=(S',(0,[]),o)→SysM (Gr M w W) W pp lp dp S'→Frm sTurn M w W→(∃c f,W.heap[w.heap.size]? = some (.cells c 74 f))→Two w.heap.size W W'→Below W'.heap.size W' W''→FltV a W'' o ev→PGetPost a M pp lp dp S n hint w (.returned (.tuple #[.agg #[.int .i64 0,.slice none 0 0],ev])) W'' from fun W W' W'' S' o ev h1 h2 h3 ⟨c,f,h4⟩ h5 h6 h7=>
    ⟨.slice none 0 0,ev,by rw[h1],by rw[h1];exact P2.nil _ _,by rw[h1];exact h7,by
      rw[h1]
      exact ((h5.sys h2 h4).below h6).mono fun k hk=>by
        rcases hk with hk | ⟨ha,hb⟩
        · exact .inl hk
        · exact .inr ⟨ha,Nat.lt_of_lt_of_le hb h6.size⟩,(h5.frm h3 (Nat.le_refl _)).step h6⟩)
  subst hv
  rcases HIF.out with ⟨hn,hi⟩ | ⟨i,f,hfd,hfi,hfn,hi⟩
  · have HNF:=Aside0.mk (show findP S.here n=none by rw[←HH.out.eq];exact hn)
    have hii:idxOf fs n = -1:=hi
    have HII:=Aside0.mk hii
    clear hn hi hii HIF
    go_enter Tryz.func37,Tryz.ntmps37
    go_wp2_with fail
    refine (HAT.out _ (HH.out.frs.below (below_alloc (Below.refl _ _) _)) (by rw[World.cell?_alloc_lt _ _ _ (by exact hpl)];exact (pool_cells HT.out).2.2.2.2)).mono ?_
    rintro e w1 ⟨rfl,hb⟩
    have HB6:=Aside0.mk (show w1.heap[w.heap.size]? = some (.cells #[.int .i64 0,.slice none 0 0] 74 (0,0)) from (hb.block w.heap.size (by simp)).trans (heap_alloc_new w _))
    have HB:=Aside0.mk (below_step (below_alloc (Below.refl w.heap.size w) _) hb)
    rw[HII.out]
    clear hb
    have HS1:=Aside0.mk (HS.out.below HB.out)
    have g1:w1.cell? ⟨6,0,none⟩=some (.iface 333 (.pointer (some (a 1)))):=HS1.out.cell 1 (by decide)
    obtain⟨_,g5,_,g3,g4⟩:=pool_cells (HT.out.below HB.out)
    have hz1:=heap_lt HB6.out
    by_cases hn1:n<1
    · have HR:=Aside0.mk (getS_low (hint:=hint) HNF.out hn1)
      have q1:decide (n<1)=true:=decide_eq_true hn1
      clear hn1 g3 g4 g5
      obtain⟨q4,q5,q2,q3⟩:=page_cells HB6.out
      go_wp2_with fail
      go_region
      all_goals
        go_wp2_with fail
        refine bodyPost_ret (v:=.tuple #[.agg #[.int .i64 0,.slice none 0 0],.iface 333 (.pointer (some (a 1)))]) ?_ ?_ ?_
        case refine_3=>exact HBAD.out w1 _ S (.bare 1) _ HR.out ((HX.out.below HB.out).mono fun k hk=>.inl hk) (Frm.of_below HB.out) ⟨_,_,HB6.out⟩ ((((Two.refl _ _).set 0 _).set 1 _).drew) rfl
        case refine_2=>rfl
        simp[results,Tryz.results37,go_sem,q2,q3,q4,q5]
    · have q1:decide (n<1)=false:=decide_eq_false hn1
      have HN1:=Aside0.mk hn1
      clear hn1
      go_wp2_with fail
      go_quiet (fail)
      go_upto_if 40 with fail
      have HBq:=Aside0.mk (show Below w.heap.size w (w1.drewN nq) by first | exact pw_below_drewN HB.out | (apply pw_below_drewN;exact HB.out))
      have HB6q:=Aside0.mk (show (w1.drewN nq).heap[w.heap.size]? = some (.cells #[.int .i64 0,.slice none 0 0] 74 (0,0)) from HB6.out)
      have HS1q:=Aside0.mk (HS.out.below HBq.out)
      obtain⟨wq,hwq⟩ : ∃wq,w1.drewN nq=wq:=⟨_,rfl⟩
      rw[hwq] at HBq HB6q HS1q ⊢
      clear g1 g3 g4 g5 hz1 hwq HB HB6 HS1
      have HB:=HBq
      have HB6:=HB6q
      have HS1:=HS1q
      clear HBq HB6q HS1q
      have HX1:=Aside0.mk (HX.out.below HB.out)
      go_cut [] (fun wx => ∃S1:PSys,Aside0 (SysM (Gr M w wx) wx pp lp dp S1)∧Aside0 (Frm sTurn M w wx)∧Aside0 (getS S n hint=getTail S1 n)∧Aside0 (wx.heap[w.heap.size]? = some (.cells #[.int .i64 0,.slice none 0 0] 74 (0,0)))∧Aside0 (findP S1.here n=none)∧Aside0 (S1.here.length≤7))
      case first=>
        have HFR:=Aside0.mk HX.out.frames
        by_cases hfu:S.frames≤(fl:Int)
        · have hq:decide (S.frames≤(fl:Int))=true:=decide_eq_true hfu
          have HFU:=Aside0.mk (show S.frames≤S.here.length by rw[HLEN.out];exact hfu)
          clear hfu
          rw[hq]
          go_wp2_with fail
          refine (evict_pool a M pp lp dp S hint _ HS1.out HO.out HX1.out HLO.out (by assumption) (by assumption)).mono ?_
          rintro e w2 ⟨rfl,x2,f2⟩
          have hz2:=HB.out.size
          have hz3:=f2.size
          have HX2:=Aside0.mk (show SysM (Gr M w w2) w2 pp lp dp (evictS S hint).1 from x2.mono fun k hk=>by
            rcases hk with hk | ⟨h1,h2⟩
            · exact .inl hk
            · exact .inr ⟨by omega,h2⟩)
          have HF2:=Aside0.mk (show Frm sTurn M w w2 from (Frm.of_below HB.out).trans f2)
          have HB62:=Aside0.mk (show w2.heap[w.heap.size]? = some (.cells #[.int .i64 0,.slice none 0 0] 74 (0,0)) from f2.at HB6.out (.inl (by decide)))
          have HW2:=Aside0.mk (heap_lt HB62.out)
          clear x2 f2 hz2 hz3
          have HEV:=Aside0.mk (evictS_here (hint:=hint) HX.out.here HFU.out HFR.out.1)
          obtain⟨⟨S1,o⟩,hev⟩ : ∃q,evictS S hint=q:=⟨_,rfl⟩
          have HE:=Aside0.mk hev
          rw[hev] at HX2 HEV
          rw[hev]
          simp only at HX2 HEV
          clear hev
          cases o with
          | some e=>
            have HR:=Aside0.mk (getS_err HNF.out (by have:=HN1.out;omega) HFU.out HE.out)
            obtain⟨q4,q5,q2,q3⟩:=page_cells HB62.out
            have hz2:=HW2.out
            rw[show errv a (S1,some e).2 = .iface 333 (.pointer (some (a e))) from rfl]
            go_wp2_with fail
            refine bodyPost_ret (v:=.tuple #[.agg #[.int .i64 0,.slice none 0 0],.iface 333 (.pointer (some (a e)))]) ?_ ?_ ?_
            case refine_3=>exact HBAD.out w2 _ S1 (.bare e) _ HR.out HX2.out HF2.out ⟨_,_,HB62.out⟩ (((Two.refl _ _).set 0 _).set 1 _) rfl
            case refine_2=>rfl
            simp[results,Tryz.results37,go_sem,q2,q3,q4,q5]
          | none=>
            rw[show errv a (S1,none).2 = .nilIface from rfl]
            go_wp2_with fail
            go_meet
            exact⟨S1,HX2,HF2,⟨getS_evict HNF.out (by have:=HN1.out;omega) HFU.out HE.out⟩,HB62,⟨by have h:=HEV.out.2;simp at h;exact h n HNF.out⟩,⟨by have h:=HEV.out.1;simpa using h⟩⟩
        · have hq:decide (S.frames≤(fl:Int))=false:=decide_eq_false hfu
          have HFU:=Aside0.mk (show ¬S.frames≤S.here.length by rw[HLEN.out];exact hfu)
          clear hfu
          rw[hq]
          go_wp2_with fail
          go_meet
          exact⟨S,⟨HX1.out.mono fun k hk=>.inl hk⟩,⟨Frm.of_below HB.out⟩,⟨getS_room HNF.out (by have:=HN1.out;omega) (by have:=HFU.out;omega)⟩,HB6,HNF,⟨by have:=HFU.out;have:=HFR.out.2;omega⟩⟩
      case rest=>
        obtain⟨S1,HX2,HF2,HG2,HB62,HNF1,HL7⟩:=hcut
        have HS2:=Aside0.mk (sents_frm HS.out HF2.out HO.out)
        obtain⟨t1,h1,fs1,ht1,hh1⟩:=HX2.out.pool
        obtain⟨_,g5,_,g3,g4⟩:=pool_cells ht1
        have HT1:=Aside0.mk ht1
        have HH1:=Aside0.mk hh1
        have hpl1:=heap_lt ht1.box
        clear ht1 hh1 g3 g4
        go_wp2_with fail
        refine (read_disk a _ dp S1.d n wc HS2.out HX2.out.dsk).mono ?_
        rintro e w3 ⟨v3,rfl,hb3,hB3⟩
        have HB3:=Aside0.mk hB3
        have HBS3:=Aside0.mk hb3
        have HB63:=Aside0.mk (show w3.heap[w.heap.size]? = some (.cells #[.int .i64 0,.slice none 0 0] 74 (0,0)) from (hB3.block _ (heap_lt HB62.out)).trans HB62.out)
        have HX3:=Aside0.mk (show SysM (Gr M w w3) w3 pp lp dp S1 from (HX2.out.below hB3).mono fun k hk=>by
            rcases hk with hk | ⟨h1,h2⟩
            · exact .inl hk
            · exact .inr ⟨h1,by have:=hB3.size;omega⟩)
        have HF3:=Aside0.mk (show Frm sTurn M w w3 from HF2.out.step hB3)
        have HS3:=Aside0.mk (HS2.out.below hB3)
        have hz3:w.heap.size<w3.heap.size:=heap_lt HB63.out
        obtain⟨A3,c3,hv3,_⟩:=Rd.form hb3
        clear hB3 hb3 g5
        cases hre:readE S1.d n with
        | some e=>
          have HR:=Aside0.mk (show getS S n hint=(S1,(0,[]),.bare e) by rw[HG2.out];unfold getTail;simp only[hre])
          obtain⟨q4,q5,q2,q3⟩:=page_cells HB63.out
          rw[show errv a (some e) = .iface 333 (.pointer (some (a e))) from rfl]
          subst hv3
          clear hre
          go_wp2_with fail
          refine bodyPost_ret (v:=.tuple #[.agg #[.int .i64 0,.slice none 0 0],.iface 333 (.pointer (some (a e)))]) ?_ ?_ ?_
          case refine_3=>exact HBAD.out w3 _ S1 (.bare e) _ HR.out HX3.out HF3.out ⟨_,_,HB63.out⟩ (((Two.refl _ _).set 0 _).set 1 _) rfl
          case refine_2=>rfl
          simp[results,Tryz.results37,go_sem,q2,q3,q4,q5]
        | none=>
          have HRE:=Aside0.mk hre
          have HSB:=Aside0.mk (show SecB (readV S1.d n) from readV_ok HX3.out.dsk hre)
          rw[show errv a none = .nilIface from rfl]
          clear hre
          subst hv3
          go_wp2_with fail
          refine (read_calls a _ (readV S1.d n) _ HS3.out HBS3.out HSB.out.1 HSB.out.2).mono ?_
          rintro e w4 ⟨sl,rfl,hp4,hB4⟩
          have HS4:=Aside0.mk (HS3.out.below hB4)
          have HX4:=Aside0.mk (show SysM (Gr M w w4) w4 pp lp dp S1 from (HX3.out.below hB4).mono fun k hk=>by
            rcases hk with hk | ⟨h1,h2⟩
            · exact .inl hk
            · exact .inr ⟨h1,by have:=hB4.size;omega⟩)
          have HF4:=Aside0.mk (show Frm sTurn M w w4 from HF3.out.step hB4)
          have HB64:=Aside0.mk (show w4.heap[w.heap.size]? = some (.cells #[.int .i64 0,.slice none 0 0] 74 (0,0)) from (hB4.block _ (heap_lt HB63.out)).trans HB63.out)
          have HP4:=Aside0.mk hp4
          obtain⟨A4,c4,rfl,_⟩:=ow_slice hp4.1
          have hz4:w.heap.size<w4.heap.size:=heap_lt HB64.out
          clear hp4 hB4 hz3
          obtain⟨go,hgo⟩ : ∃go,readPage (readV S1.d n)=go:=⟨_,rfl⟩
          rw[hgo] at HP4 ⊢
          have HGO:=Aside0.mk hgo
          clear hgo
          obtain⟨q4,q5,q2,q3⟩:=page_cells HB64.out
          cases go with
          | none=>
            have g1:w4.cell? ⟨7,0,none⟩=some (.iface 333 (.pointer (some (a 6)))):=HS4.out.cell 6 (by decide)
            have hgl6:7<w.heap.size:=World.block_lt_of_cell? _ _ (HS.out.cell 6 (by decide))
            have hgl6b:7<w4.heap.size:=by omega
            have HR:=Aside0.mk (show getS S n hint=(S1,(0,[]),.at n 6) by rw[HG2.out];unfold getTail;simp only[HRE.out,HGO.out])
            rw[show errv a (if (none:Option (Int×List (Int×Int))).isSome then none else some 6) = .iface 333 (.pointer (some (a 6))) from rfl]
            rw[show ((none:Option (Int×List (Int×Int))).getD (0,[])).1=0 from rfl,show ((none:Option (Int×List (Int×Int))).getD (0,[])).2.length=0 from rfl]
            go_wp2_with fail
            go_region
            all_goals
              go_wp2_with fail
              refine bodyPost_ret (v:=.tuple #[.agg #[.int .i64 0,.slice none 0 0],.iface 165 (.pointer (some ⟨w4.heap.size+1,0,none⟩))]) ?_ ?_ ?_
              case refine_3=>exact HBAD2.out w4 _ _ S1 (.at n 6) _ HR.out HX4.out HF4.out ⟨_,_,HB64.out⟩ (((Two.refl _ _).set 0 _).set 1 _) (by repeat (first | exact Below.refl _ _ | apply below_drew1 | apply below_alloc)) ⟨w4.heap.size+1,rfl,heap_new (by simp)⟩
              case refine_2=>rfl
              have k1:w.heap.size<w4.heap.size+1:=by omega
              simp[results,Tryz.results37,go_sem,q2,q3,q4,q5,World.cell?_alloc_lt,hz4,k1]
          | some g=>
            obtain⟨lsn,es⟩:=g
            have HR:=Aside0.mk (show getS S n hint=({ S1 with here:=S1.here++[⟨n,lsn,es⟩] },(lsn,es),.fine) by rw[HG2.out];unfold getTail;simp only[HRE.out,HGO.out])
            have HHO:=Aside0.mk (here_app HX4.out.here HL7.out HNF1.out (read_pageOk HGO.out))
            rw[show errv a (if (some (lsn,es)).isSome then none else some 6) = .nilIface from rfl]
            rw[show ((some (lsn,es)).getD (0,[])).1=lsn from rfl,show ((some (lsn,es)).getD (0,[])).2.length=es.length from rfl]
            have HPE:=Aside0.mk (show P2 w4 169 (.slice A4 es.length c4) es from HP4.out)
            have HX5:=Aside0.mk (sys_alloc HX4.out (.cells #[.int .i64 lsn,.slice A4 es.length c4] 74))
            obtain⟨el,hel⟩ : ∃el,es.length=el:=⟨_,rfl⟩
            have HEL:=Aside0.mk hel
            rw[hel] at HPE HX5 ⊢
            clear hel HP4
            obtain⟨t5,h5,fs5,ht5,hh5⟩:=HX5.out.pool
            obtain⟨_,_,_,_,g4⟩:=pool_cells ht5
            obtain⟨A5,c5,hv5,_⟩:=ow_slice hh5.frs.row
            obtain⟨n5,hn5⟩ : ∃n5,fs5.length=n5:=⟨_,rfl⟩
            have h58:n5≤7:=by rw[←hn5];have h:=HL7.out;rw[←hh5.eq,List.length_map] at h;exact h
            have HN5:=Aside0.mk hn5
            rw[hn5] at hv5
            have HT5:=Aside0.mk ht5
            have HH5:=Aside0.mk hh5
            have hf4:(w4.alloc (.cells #[.int .i64 lsn,.slice A4 el c4] 74)).frozen? ⟨pp,4,none⟩=false:=ht5.frozen 4
            obtain⟨i0,hi0,hzz⟩:=Option.map_eq_some_iff.1 info_frame
            simp only[Prod.mk.injEq] at hzz
            obtain⟨hz0,hz1,hz2⟩:=hzz
            clear ht5 hh5 hn5 q2 q3 q4 q5
            subst hv5
            have hn55:n5≤100000:=by omega
            have hz5:w4.heap.size<w4.heap.size+1:=by omega
            have hpl4:pp<w4.heap.size:=by omega
            go_wp2_with fail
            go_region_law (refine step_append_lies _ (by rfl) _ _ 161 (by rfl) 0 157 i0 (.agg #[.int .i64 0,.int .i64 0,.slice none 0 0]) 3 40 Tryz.underlying161 hi0 hz0 hz1 hz2 rfl (by decide) _ n5 (frCells fs5) (by rfl) (by have h:=HH5.out.frs.row;rw[HN5.out] at h;exact ow_below h (by repeat (first | exact Below.refl _ _ | apply below_drew1 | apply below_alloc))) ⟨w4.heap.size+1,0,none⟩ 1 1 [.int .i64 n,.int .i64 lsn,.slice A4 el c4] (by rfl) rfl (by exact news_fr _ _ (by simp) _ _ _ _) (by exact one_fr _ _ _ _ _) (by decide) (by exact len_ok hn55) (by exact len40 hn55) (by exact Nat.zero_le _) (w4.heap.size+2) (by simp) ?_;intro g2 cap2 w6 hown hgr hor hlt3;have hkg:w6.heap[pp]? = (w4.alloc (.cells #[.int .i64 lsn,.slice A4 el c4] 74)).heap[pp]? := grown_blk hgr (by exact (show Below (w4.alloc (.cells #[.int .i64 lsn,.slice A4 el c4] 74)).heap.size (w4.alloc (.cells #[.int .i64 lsn,.slice A4 el c4] 74)) _ by repeat (first | exact Below.refl _ _ | apply below_drew1 | apply below_alloc)).block _ (by simp;omega)) (by simp;omega) (fun k hk e=>frs_pool HH5.out HT5.out (hk.trans (congrArg some e)));have hs1:w6.cell? ⟨pp,4,none⟩=some (.slice A5 n5 c5):=(World.cell?_of_block (w:=w4.alloc (.cells #[.int .i64 lsn,.slice A4 el c4] 74)) (a:=⟨pp,4,none⟩) hkg).trans g4;have hs2:w6.frozen? ⟨pp,4,none⟩=false:=(World.frozen?_of_block (w:=w4.alloc (.cells #[.int .i64 lsn,.slice A4 el c4] 74)) (a:=⟨pp,4,none⟩) hkg).trans hf4)
            all_goals
              have HOWN:=Aside0.mk hown
              have HGR:=Aside0.mk (show (w4.alloc (.cells #[.int .i64 lsn,.slice A4 el c4] 74)).grownBy w6 (Value.slice A5 n5 c5).ownBlock from grown_trans (Below.refl _ _) (by repeat (first | exact Below.refl _ _ | apply below_drew1 | apply below_alloc)) hgr)
              have HOR:=Aside0.mk (show (Value.slice (some ⟨g2,0,none⟩) (n5+1) cap2).ownBlock=(Value.slice A5 n5 c5).ownBlock∨∀k,(Value.slice (some ⟨g2,0,none⟩) (n5+1) cap2).ownBlock=some k→(w4.alloc (.cells #[.int .i64 lsn,.slice A4 el c4] 74)).heap.size≤k from by
                rcases hor with h | h
                · exact .inl h.symm
                · exact .inr fun j hj=>by
                    have:g2=j:=by simpa [Value.ownBlock] using hj
                    simp
                    omega)
              clear hown hgr hor
              have HMOV:=Aside0.mk (show ∀(v:Value) (es:List (Int×Int)),P2 (w4.alloc (.cells #[.int .i64 lsn,.slice A4 el c4] 74)) 169 v es→P2 w6 169 v es from fun v es hp=>⟨ow_move hp.1 fun j hj=>by
                obtain⟨_,c,hc⟩:=ow_block hp.1 hj
                refine HGR.out.block j (heap_lt hc) fun e => ?_
                obtain⟨_,c2,hc2⟩:=ow_block HH5.out.frs.row e.symm
                rw[hc2] at hc
                injection hc with hc;injection hc with _ hc
                exact absurd hc (by decide),hp.2⟩)
              have HPE5:=Aside0.mk (show P2 (w4.alloc (.cells #[.int .i64 lsn,.slice A4 el c4] 74)) 169 (.slice A4 el c4) es from P2.below HPE.out (below_alloc (Below.refl _ _) _))
              have hmap:(fs5++[(⟨n,lsn,.slice A4 el c4,es⟩:Fr)]).map forget=S1.here++[⟨n,lsn,es⟩]:=by rw[List.map_append,HH5.out.eq];rfl
              have HSY:=Aside0.mk (sys_here (fs':=fs5++[(⟨n,lsn,.slice A4 el c4,es⟩:Fr)]) (h':=.slice (some ⟨g2,0,none⟩) (n5+1) cap2) HX5.out HT5.out HH5.out (w1:=w6) (by
                  rw[List.length_append,HN5.out,frCells_append]
                  exact HOWN.out) (fun f hf=>by
                  rcases List.mem_append.1 hf with hf | hf
                  · exact HMOV.out _ _ (HH5.out.frs.pages f hf)
                  · rw[List.mem_singleton] at hf
                    subst hf
                    exact HMOV.out _ _ HPE5.out) (by rw[hmap];exact HHO.out) HGR.out HOR.out)
              rw[hmap] at HSY
              clear hmap
              have HX7:=Aside0.mk (HSY.out.1.mono (M':=Gr M w (w6.setCell ⟨pp,4,none⟩ (.slice (some ⟨g2,0,none⟩) (n5+1) cap2))) fun j hj=>by
                have h1:=HF4.out.size
                have h2:=HGR.out.size
                simp at h2
                rcases hj with (hj | ⟨ha,hb⟩) | ⟨ha,hb⟩
                · exact .inl hj
                · exact .inr ⟨ha,by simp at hb;simp[World.setCell];omega⟩
                · exact .inr ⟨by simp at ha;omega,by simp[World.setCell];exact hb⟩)
              have HF57:=Aside0.mk HSY.out.2
              have HF7:=Aside0.mk ((HF4.out.alloc (.cells #[.int .i64 lsn,.slice A4 el c4] 74)).transG (frm_sys4 HSY.out.2))
              obtain⟨wz,hwz⟩ : ∃wz,w6.setCell ⟨pp,4,none⟩ (.slice (some ⟨g2,0,none⟩) (n5+1) cap2)=wz:=⟨_,rfl⟩
              rw[hwz] at HX7 HF7 HF57 ⊢
              have HB6z:=Aside0.mk (show wz.heap[w.heap.size]? = some (.cells #[.int .i64 0,.slice none 0 0] 74 (0,0)) from HF57.out.at (((below_alloc (Below.refl _ _) _).block _ (heap_lt HB64.out)).trans HB64.out) (.inl (by decide)))
              have HBz:=Aside0.mk (show wz.heap[w4.heap.size]? = some (.cells #[.int .i64 lsn,.slice A4 el c4] 74 (0,0)) from HF57.out.at (heap_alloc_new _ _) (.inl (by decide)))
              have HPz:=Aside0.mk (show P2 wz 169 (.slice A4 el c4) es from HPE5.out.frm HF57.out (by decide))
              obtain⟨r0,r1,_,_⟩:=page_cells HBz.out
              clear hwz hs1 hs2 hkg hlt3 hi0 hz0 hz1 hz2 HSY
              go_wp2_with fail
              refine (own_calls lsn _ es _ HPz.out).mono ?_
              rintro e w8 ⟨v8,rfl,hp8,hb8⟩
              have HP8:=Aside0.mk hp8
              have HB68:=Aside0.mk (show w8.heap[w.heap.size]? = some (.cells #[.int .i64 0,.slice none 0 0] 74 (0,0)) from (hb8.block w.heap.size (heap_lt HB6z.out)).trans HB6z.out)
              have HB8:=Aside0.mk hb8
              obtain⟨q0,q1,q2,q3⟩:=page_cells HB68.out
              obtain⟨A8,c8,rfl,_⟩:=ow_slice hp8.1
              have hz8:w.heap.size<w8.heap.size:=heap_lt HB68.out
              clear hb8 hp8 r0 r1
              go_wp2_with fail
              have HTW:=Aside0.mk (show Two w.heap.size w8 ((w8.setCell ⟨w.heap.size,0,none⟩ (.int .i64 lsn)).setCell ⟨w.heap.size,1,none⟩ (.slice A8 es.length c8)) from ((Two.refl _ _).set 0 _).set 1 _)
              refine bodyPost_ret (v:=.tuple #[.agg #[.int .i64 lsn,.slice A8 es.length c8],.nilIface]) (by simp[results,Tryz.results37,go_sem,q0,q1,q2,q3]) rfl ⟨.slice A8 es.length c8,.nilIface,by rw[HR.out],by rw[HR.out];exact HTW.out.p2 HP8.out HB68.out,by rw[HR.out];rfl,by
                rw[HR.out]
                exact HTW.out.sys ((HX7.out.below HB8.out).mono fun k hk=>by
                  rcases hk with hk | ⟨h1,h2⟩
                  · exact .inl hk
                  · exact .inr ⟨h1,by have:=HB8.out.size;omega⟩) HB68.out,HTW.out.frm (HF7.out.step HB8.out) (Nat.le_refl _)⟩
  · have HFD:=Aside0.mk (show findP S.here n=some (forget f) by rw[←HH.out.eq];exact hfd)
    have HFI:=Aside0.mk hfi
    have hii:idxOf fs n=(i:Int):=by unfold idxOf;rw[hi];omega
    have hil:i<fl:=by rw[←HFLN.out];exact (List.getElem?_eq_some_iff.1 hfi).1
    obtain⟨fn,lsn,fv,es⟩:=f
    simp only at hfn
    have HII:=Aside0.mk hii
    clear hfd hfi hfn hi HIF hii
    go_enter Tryz.func37,Tryz.ntmps37
    go_wp2_with fail
    refine (HAT.out _ (HH.out.frs.below (below_alloc (Below.refl _ _) _)) (by rw[World.cell?_alloc_lt _ _ _ (by exact hpl)];exact (pool_cells HT.out).2.2.2.2)).mono ?_
    rintro e w1 ⟨rfl,hb⟩
    have HB6:=Aside0.mk (show w1.heap[w.heap.size]? = some (.cells #[.int .i64 0,.slice none 0 0] 74 (0,0)) from (hb.block w.heap.size (by simp)).trans (heap_alloc_new w _))
    have HB:=Aside0.mk (below_step (below_alloc (Below.refl w.heap.size w) _) hb)
    rw[HII.out]
    clear hb
    have hh1:=HH.out.below HB.out
    obtain⟨_,_,_,_,g4⟩:=pool_cells (HT.out.below HB.out)
    obtain⟨g,hA,hll,d0,d1,d2,A',c',hfv⟩:=hh1.frs.at HFI.out
    simp only at d0 d1 d2 hfv
    have HP1:=Aside0.mk (show P2 w1 169 fv es from hh1.frs.pages ⟨fn,lsn,fv,es⟩ (List.mem_of_getElem? HFI.out))
    subst hA hfv
    have hi0:(0:Int)≤(i:Int):=by omega
    clear hh1 hll d0
    go_wp2_with fail
    refine (own_calls lsn _ es _ HP1.out).mono ?_
    rintro e w2 ⟨v2,rfl,hp2,hb⟩
    have HP2:=Aside0.mk hp2
    have HB26:=Aside0.mk (show w2.heap[w.heap.size]? = some (.cells #[.int .i64 0,.slice none 0 0] 74 (0,0)) from (hb.block w.heap.size (heap_lt HB6.out)).trans HB6.out)
    have HB2:=Aside0.mk (below_step HB.out hb)
    have q0:w2.cell? ⟨w.heap.size,0,none⟩=some (.int .i64 0):=by simp[World.cell?,HB26.out]
    have q1:w2.cell? ⟨w.heap.size,1,none⟩=some (.slice none 0 0):=by simp[World.cell?,HB26.out]
    have q2:w2.frozen? ⟨w.heap.size,0,none⟩=false:=by simp[World.frozen?,HB26.out]
    have q3:w2.frozen? ⟨w.heap.size,1,none⟩=false:=by simp[World.frozen?,HB26.out]
    obtain⟨A2,c2,rfl,_⟩:=ow_slice hp2.1
    have hz2:w.heap.size<w2.heap.size:=heap_lt HB26.out
    clear hb hp2 d1 d2 g4
    go_wp2_with fail
    have HTW:=Aside0.mk (show Two w.heap.size w2 ((w2.setCell ⟨w.heap.size,0,none⟩ (.int .i64 lsn)).setCell ⟨w.heap.size,1,none⟩ (.slice A2 es.length c2)) from ((Two.refl _ _).set 0 _).set 1 _)
    refine bodyPost_ret (v:=.tuple #[.agg #[.int .i64 lsn,.slice A2 es.length c2],.nilIface]) (by simp[results,Tryz.results37,go_sem,q0,q1,q2,q3]) rfl ⟨.slice A2 es.length c2,.nilIface,by rw[getS_found HFD.out];rfl,by rw[getS_found HFD.out];exact HTW.out.p2 HP2.out HB26.out,by rw[getS_found HFD.out];rfl,by rw[getS_found HFD.out];exact HTW.out.sys ((HX.out.below HB2.out).mono fun k hk=>.inl hk) HB26.out,HTW.out.frm (Frm.of_below HB2.out) (Nat.le_refl _)⟩
end Go.Proofs.YtaplpeoikebedaaGreatDoor.PoolG
