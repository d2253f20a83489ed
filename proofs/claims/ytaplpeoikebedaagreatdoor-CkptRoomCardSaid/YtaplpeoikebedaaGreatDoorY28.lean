/- Joined texts: StoreI, StoreJ. No condition but what each says. -/
import Derived.Test.YtaplpeoikebedaaGreatDoorY22
import Derived.Test.YtaplpeoikebedaaGreatDoorY25
set_option maxHeartbeats 8000000
set_option maxRecDepth 100000
set_option linter.unusedVariables false
set_option linter.unusedSimpArgs false
namespace Go.Proofs.YtaplpeoikebedaaGreatDoor.StoreI
open Go.RowKit See Mem Clone Go.Proofs.YtaplpeoikebedaaGreatDoor.Cell Page PageB PageR PageL Disk DiskN DiskW RecD Dirty Dirty2 SysD SysM Wal WalF GoodD PoolG PoolS FlushG Fresh DirtD PoolA TabL SortI AheadD Pager StoreD PageM StoreF StoreG StoreH LockT LockU
def newF (P blocks frames sess:Int):FS:=⟨sys0 (1+P+blocks).toNat (P+1) blocks frames,P,sess,[],[],0,blocks*6,0,fun _=>0⟩
theorem good_z (n:Nat):GoodD.Good (zdisk n) n:=⟨rfl,rfl,by simp[zdisk]⟩
theorem pageV_zero:PageV 0 []:=by
  refine⟨by decide,fun e he=>by cases he⟩
theorem cur_new {n:Nat}{f b fr k:Int}(h1:0≤k)(h2:k<n):cur (sys0 n f b fr) k=(0,[]):=by
  have:findP (sys0 n f b fr).here k=none:=rfl
  unfold cur
  rw[this]
  show (readPage (readV (zdisk n) k)).getD (0,[])=_
  rw[(readE_zero h1 h2).2,read_zero]
  rfl
theorem new_ok {P blocks frames sess:Int}(m:Nat)(h1:1≤P∧P≤32)(h2:1≤blocks∧blocks≤100)(h3:1≤frames):FOk (1+P+blocks).toNat m (fun _=>[]) (fun _=>2) (newF P blocks frames sess):=by
  have hN:(((1+P+blocks).toNat:Nat):Int)=1+P+blocks:=by omega
  refine⟨⟨⟨good_z _,h1.1,h3,rfl,?_,Nat.le_refl _,?_,List.Pairwise.nil,fun f hf=>(List.not_mem_nil hf).elim,List.Pairwise.nil,fun d hd=>(List.not_mem_nil hd).elim,fun k k1 k2 => ?_,fun f hf=>(List.not_mem_nil hf).elim⟩,?_,lg0_ok (by omega) (by omega),?_,zdisk_loose _ _,fun p p1 p2 => ?_,fun r hr=>(List.not_mem_nil hr).elim,h1.2,?_⟩,⟨List.Pairwise.nil,fun x hx=>(List.not_mem_nil hx).elim,?_,fun s hs=>absurd rfl hs,fun s t _ hs=>absurd rfl hs,fun x hx=>(List.not_mem_nil hx).elim⟩,⟨fun x hx=>(List.not_mem_nil hx).elim,fun x hx=>(List.not_mem_nil hx).elim,fun x hx=>(List.not_mem_nil hx).elim,rfl,fun p p1 p2 l hn hl => ?_⟩⟩
  · show (P+1)*6+((([]:List RecV).length:Nat):Int)≤_
    simp
    omega
  · show ((([]:List Fp).length:Nat):Int)≤frames
    simp
    omega
  · have k2':k≤P:=k2
    refine⟨(0,[]),?_,pageV_zero⟩
    show readV (zdisk _) k=_
    rw[(readE_zero (by omega) (by omega)).2,ErrD.page_zero]
  · show P+1+blocks≤_
    omega
  · show FuseOk (zdisk _)
    unfold FuseOk zdisk
    simp
  · have p2':p≤P:=p2
    show (cur (sys0 _ _ _ _) p).1≤_
    rw[cur_new (by omega) (by omega)]
    show (0:Int)≤_
    unfold Lg.last newF sys0 lg0
    simp
  · show 0≤blocks*6∧(0:Int)≤0∧blocks*6+0=(lg0 (P+1) blocks).room
    have:(lg0 (P+1) blocks).room=max (min (blocks*6 - 0) (1073741824 - (0+0))) 0:=rfl
    rw[this]
    omega
  · show (0:Int)≤0∧(0:Int)≤60000
    omega
  · have p2':p≤P:=p2
    show (cur (sys0 _ _ _ _) p).2.length+l.length≤20
    rw[cur_new (by omega) (by omega)]
    have:l=[]:=by
      rw[List.eq_nil_iff_forall_not_mem]
      intro k hk
      obtain⟨_,_,x,hx,_⟩:=hl k hk
      exact (List.not_mem_nil hx).elim
    rw[this]
    simp
structure KOk (own:Int→Int) (ks:List Lk):Prop where
  mode : ∀h∈ks,h.mode=2
  own : ∀h∈ks,own h.key=h.s
  once:(ks.map (·.key)).Nodup
  rng : ∀h∈ks,0≤h.key∧h.key<1048576
theorem KOk.nil (own:Int→Int):KOk own []:=⟨fun h hh=>(List.not_mem_nil hh).elim,fun h hh=>(List.not_mem_nil hh).elim,List.nodup_nil,fun h hh=>(List.not_mem_nil hh).elim⟩
theorem KOk.who {own:Int→Int}{ks:List Lk}(h:KOk own ks){s key:Int}(he:own key=s)(m:Int):whoL ks s key m=[]:=by
  unfold whoL
  rw[List.map_eq_nil_iff,List.filter_eq_nil_iff]
  intro x hx e
  unfold inWay at e
  simp only[Bool.and_eq_true,beq_iff_eq,bne_iff_ne] at e
  obtain⟨⟨⟨_,e1⟩,e2⟩,_⟩:=e
  have:=h.own x hx
  rw[e1,he] at this
  exact e2 this.symm
theorem KOk.held {own:Int→Int}{ks:List Lk}(h:KOk own ks):heldL ks=ks.map (·.key):=by
  unfold heldL
  rw[List.filter_eq_self.2 fun x hx=>by simp[h.mode x hx]]
theorem KOk.take {own:Int→Int}{ks:List Lk}(h:KOk own ks){s key:Int}(he:own key=s)(hkr:0≤key∧key<1048576) :
    KOk own (takeL ks s key 2)∧(takeL ks s key 2).length≤ks.length+1∧(∃x∈takeL ks s key 2,x.mode=2∧x.key=key∧x.s=s)∧∀x∈ks,x∈takeL ks s key 2:=by
  unfold takeL
  rcases lkIdx_or s key ks 0 with hi | ⟨i,f,hf,hi⟩
  · rw[hi,if_pos (by decide)]
    have hno : ∀x∈ks,x.key≠key:=fun x hx e=>by
      have hxs:x.s=s∧x.key=key:=⟨by rw[←h.own x hx,e,he],e⟩
      have key2 : ∀(l:List Lk) (n:Int),0≤n→x∈l→lkIdx s key l n≠-1:=by
        intro l
        induction l with
        | nil=>intro n _ hx;exact (List.not_mem_nil hx).elim
        | cons g gs ih=>
          intro n hn hx
          unfold lkIdx
          split
          · omega
          · rename_i hng
            rcases List.mem_cons.1 hx with rfl | hx
            · exact absurd hxs hng
            · exact ih (n+1) (by omega) hx
      exact key2 ks 0 (Int.le_refl _) hx hi
    refine⟨⟨fun x hx => ?_,fun x hx => ?_,?_,fun x hx => ?_⟩,by simp,⟨⟨s,key,2⟩,by simp,rfl,rfl,rfl⟩,fun x hx=>List.mem_append_left _ hx⟩
    · rcases List.mem_append.1 hx with hx | hx
      · exact h.mode x hx
      · rw[List.mem_singleton] at hx;rw[hx]
    · rcases List.mem_append.1 hx with hx | hx
      · exact h.own x hx
      · rw[List.mem_singleton] at hx;rw[hx];exact he
    · rw[List.map_append,List.nodup_append]
      refine⟨h.once,by simp,fun a ha b hb => ?_⟩
      obtain⟨x,hx,rfl⟩:=List.mem_map.1 ha
      simp at hb
      subst hb
      exact hno x hx
    · rcases List.mem_append.1 hx with hx | hx
      · exact h.rng x hx
      · rw[List.mem_singleton] at hx;rw[hx];exact hkr
  · rw[hi,if_neg (by omega)]
    have hm:f∈ks:=List.mem_of_getElem? hf
    have hq:f.s=s∧f.key=key:=by
      clear hm
      have key2 : ∀(l:List Lk) (n:Int) (i:Nat),0≤n→l[i]? = some f→lkIdx s key l n=n+i→f.s=s∧f.key=key:=by
        intro l
        induction l with
        | nil=>intro n i _ hx;simp at hx
        | cons g gs ih=>
          intro n i hn hx hl
          unfold lkIdx at hl
          split at hl
          · rename_i hg
            have:i=0:=by omega
            subst this
            simp at hx
            rw[←hx];exact hg
          · cases i with
            | zero=>
              exfalso
              rcases lkIdx_or s key gs (n+1) with h2 | ⟨j,_,_,h2⟩
              · rw[h2] at hl;simp at hl;omega
              · rw[h2] at hl;simp at hl;omega
            | succ i=>exact ih (n+1) i (by omega) (by simpa using hx) (by rw[hl];push_cast;omega)
      exact key2 ks 0 i (Int.le_refl _) hf hi
    have hid:(ks.modify (0+(i:Int)).toNat fun h=>⟨h.s,h.key,max h.mode 2⟩)=ks:=by
      rw[show (0+(i:Int)).toNat=i from by omega]
      apply List.ext_getElem?
      intro j
      rw[List.getElem?_modify]
      by_cases e:i=j
      · subst e
        rw[hf]
        simp[h.mode f hm]
        cases f
        simp at *
        exact (h.mode _ hm).symm
      · simp[e]
    rw[hid]
    exact⟨h,by omega,⟨f,hm,h.mode f hm,hq.2,hq.1⟩,fun x hx=>hx⟩
theorem nodup_sub : ∀{a b:List Int},a.Nodup→(∀x∈a,x∈b)→a.length≤b.length
  | [],b,_,_=>Nat.zero_le _
  | x :: xs,b,ha,hs=>by
    rw[List.nodup_cons] at ha
    have hx:=hs x List.mem_cons_self
    have h2:=nodup_sub (b:=b.erase x) ha.2 fun y hy=>by
      rw[List.mem_erase_of_ne (fun e=>ha.1 (by rw[←e];exact hy))]
      exact hs y (List.mem_cons_of_mem _ hy)
    have h3:=List.length_erase_of_mem hx
    have h4:0<b.length:=List.length_pos_of_mem hx
    simp
    omega
def moreL (F:FS)(key:Int):List Int:=(heldL F.ks).filter fun k => !(has (cur F.S (placeOf key F.P)).2 k) && (k != key && placeOf k F.P == placeOf key F.P)
def fullB (F:FS)(key:Int):Bool:=decide (20≤(cur F.S (placeOf key F.P)).2.length+(moreL F key).length)
theorem FOk.locks {N m:Nat}{ch:Int→List Int}{kp:Int→Int}{F:FS}(h:FOk N m ch kp F){ks:List Lk}(hk : ∀x∈F.ks,x∈ks):FOk N m ch kp { F with ks:=ks }:=
  ⟨⟨h.g.pg,h.g.fit,h.g.lok,h.g.fuse,h.g.loose,h.g.lsn,h.g.six,h.g.p32,h.g.room⟩,⟨h.t.rise,h.t.ids,h.t.most,h.t.ofs,h.t.inj,h.t.on⟩,⟨h.c.last,h.c.next,fun x hx k hk2 r hr=>by
    obtain⟨a,b,lk,c1,c2⟩:=h.c.sets x hx k hk2 r hr
    exact⟨a,b,lk,hk lk c1,c2⟩,h.c.kept,h.c.cap⟩⟩
theorem get_ok {N m:Nat}{ch:Int→List Int}{kp:Int→Int}{F:FS}(h:FOk N m ch kp F)(hint:Int){p:Int}(p1:1≤p)(p2:p≤F.P) :
    ∃S',getS F.S p hint=(S',cur F.S p,.fine)∧FOk N (m+1) ch kp { F with S:=S' }∧PgTo F.P F.S S'∧findP S'.here p=some ⟨p,(cur F.S p).1,(cur F.S p).2⟩:=by
  obtain⟨S',e1,e2,e3,e4⟩:=pg_get hint h.g.pg p1 p2
  have hl:=getS_tight p hint h.g.pg h.g.loose
  rw[e1] at hl
  refine⟨S',e1,h.to e2 e3 ?_ hl ?_,e3,e4⟩
  · have:=e2.good.fuse
    unfold FuseOk
    rw[this]
    omega
  · obtain⟨dn,q1,q2⟩:=e3.log
    have hd:=e2.done
    rw[q1] at hd ⊢
    have ho:=h.g.lok
    exact⟨ho.first,ho.blocks,ho.base,ho.epoch,ho.len,ho.last,hd,ho.recs⟩
def takesF (F:FS)(n key mode hint:Int):FS:={ F with ks:=takeL F.ks n key mode,S:=(getS F.S (placeOf key F.P) hint).1 }
theorem takes_ok {N m:Nat}{ch:Int→List Int}{kp:Int→Int}{F:FS}{own:Int→Int}(h:FOk N m ch kp F)(hk:KOk own F.ks){n key:Int}(he:own key=n)(hkr:0≤key∧key<1048576)(hint:Int) :
    getS F.S (placeOf key F.P) hint=((takesF F n key 2 hint).S,cur F.S (placeOf key F.P),.fine)∧FOk N (m+1) ch kp (takesF F n key 2 hint)∧KOk own (takesF F n key 2 hint).ks ∧
    (∀k,vals (takesF F n key 2 hint) k=vals F k)∧(∀p,1≤p→p≤F.P→cur (takesF F n key 2 hint).S p=cur F.S p)∧findP (takesF F n key 2 hint).S.here (placeOf key F.P)=some ⟨placeOf key F.P,(cur F.S (placeOf key F.P)).1,(cur F.S (placeOf key F.P)).2⟩∧(takesF F n key 2 hint).S.l.last=F.S.l.last ∧
    (∃x∈(takesF F n key 2 hint).ks,x.mode=2∧x.key=key∧x.s=n)∧(takesF F n key 2 hint).ks.length≤F.ks.length+1:=by
  obtain⟨p1,p2⟩:=placeOf_in key h.g.pg.pages
  obtain⟨k1,k2,k3,k4⟩:=hk.take he hkr
  obtain⟨S',e1,e2,e3,e4⟩:=get_ok h hint p1 p2
  have hS:(takesF F n key 2 hint).S=S':=by unfold takesF;rw[e1]
  have hF:takesF F n key 2 hint={ F with ks:=takeL F.ks n key 2,S:=S' }:=by unfold takesF;rw[e1]
  obtain⟨l1,l2,l3,l4,l5⟩:=e3.ll
  rw[hF]
  refine⟨e1,FOk.locks e2 k4,k1,fun k => ?_,e3.cur,e4,?_,k3,k2⟩
  · exact vals_to h.g.pg.pages e3 k
  · exact (room_done (L:=F.S.l) (L':=S'.l) ⟨l2,l3,l1⟩).2
theorem put_ok {N m:Nat}{ch:Int→List Int}{kp:Int→Int}{F:FS}{id key v:Int}{fp:Fp}(h:FOk N m ch kp F)(hid:thas F.ts id=true)(hf:findP F.S.here (placeOf key F.P)=some fp)(hk:0≤key∧key<1048576)(hv:is64 v)
    (hh : ∃lk∈F.ks,lk.mode=2∧lk.key=key∧F.of lk.s=id) (hfr:2≤F.free) (hfull:has (cur F.S (placeOf key F.P)).2 key=true∨fullB F key=false) :
    setS (addRec F.S (recSet (tget F.ts id) F.P key (has (cur F.S (placeOf key F.P)).2 key) (fromOf (cur F.S (placeOf key F.P)).2 key) true v)) (placeOf key F.P) (F.S.l.last+1) (redoE (cur F.S (placeOf key F.P)).2 (recSet (tget F.ts id) F.P key (has (cur F.S (placeOf key F.P)).2 key) (fromOf (cur F.S (placeOf key F.P)).2 key) true v))=((setF F id key (has (cur F.S (placeOf key F.P)).2 key) (fromOf (cur F.S (placeOf key F.P)).2 key) true v).S,none)∧recOk (recSet (tget F.ts id) F.P key (has (cur F.S (placeOf key F.P)).2 key) (fromOf (cur F.S (placeOf key F.P)).2 key) true v)=true∧(redoE (cur F.S (placeOf key F.P)).2 (recSet (tget F.ts id) F.P key (has (cur F.S (placeOf key F.P)).2 key) (fromOf (cur F.S (placeOf key F.P)).2 key) true v)).length≤20 ∧
    FOk N m (updc ch id ((F.S.l.last+1) :: ch id)) kp (setF F id key (has (cur F.S (placeOf key F.P)).2 key) (fromOf (cur F.S (placeOf key F.P)).2 key) true v)∧∀k,vals (setF F id key (has (cur F.S (placeOf key F.P)).2 key) (fromOf (cur F.S (placeOf key F.P)).2 key) true v) k=if k=key then some v else vals F k:=by
  obtain⟨p1,p2⟩:=placeOf_in key h.g.pg.pages
  have hpv:=h.g.pg.curV p1 p2
  have hrise:=PageV.rise hpv
  have hv2:val (cur F.S (placeOf key F.P)).2 key=vals F key:=rfl
  have hold:is64 (fromOf (cur F.S (placeOf key F.P)).2 key)∧(has (cur F.S (placeOf key F.P)).2 key=false→fromOf (cur F.S (placeOf key F.P)).2 key=0):=by
    rw[from_val hrise,has_val hrise]
    cases hx:val (cur F.S (placeOf key F.P)).2 key with
    | none=>exact⟨by unfold is64;simp,fun _=>rfl⟩
    | some x=>
      have:=(val_some hrise key x).1 hx
      exact⟨hpv.2 _ this,fun e=>by simp at e⟩
  have:=set_ok (key:=key) (had:=has (cur F.S (placeOf key F.P)).2 key) (has:=true) (old:=fromOf (cur F.S (placeOf key F.P)).2 key) (new:=v) h hid hf hk ⟨hold.1,hv⟩ hold.2 (fun e=>by cases e) (.inr rfl) hh hfr (fun hn _ l hl hl2 => ?_) (fun e=>by cases e)
  · obtain⟨a,b,c,d,e⟩:=this
    exact⟨a,b,c,d,fun k=>by rw[e k];simp⟩
  · have hno:has (cur F.S (placeOf key F.P)).2 key=false:=by rw[has_val hrise,hv2,hn];rfl
    have hfb:=hfull.resolve_left (by rw[hno];decide)
    unfold fullB at hfb
    have hlt:(cur F.S (placeOf key F.P)).2.length+(moreL F key).length<20:=by simpa using hfb
    have:=nodup_sub (b:=moreL F key) hl fun k hk2=>by
      obtain⟨q1,q2,q3,lk,q4,q5,q6⟩:=hl2 k hk2
      unfold moreL
      rw[List.mem_filter]
      refine⟨?_,?_⟩
      · unfold heldL
        exact List.mem_map.2 ⟨lk,List.mem_filter.2 ⟨q4,by simp[q5]⟩,q6⟩
      · have:has (cur F.S (placeOf key F.P)).2 k=false:=by
          rw[has_val hrise]
          unfold vals at q3
          rw[q2] at q3
          rw[q3];rfl
        simp[this,q1,q2]
    omega
end Go.Proofs.YtaplpeoikebedaaGreatDoor.StoreI
namespace Go.Proofs.YtaplpeoikebedaaGreatDoor.StoreJ
open Go.RowKit See Mem Page PageB PageR PageL Disk DiskW RecD Dirty Dirty2 SysD SysM Wal WalF GoodD PoolG PoolS FlushG Fresh DirtD Pager StoreD PageM StoreF StoreG StoreH LockT LockU StoreI
def putR (F:FS)(n key v hint:Int):FS×Int×Bool×Option Nat:=
  if has (cur F.S (placeOf key F.P)).2 key=false∧fullB (takesF F n key 2 hint) key=true then (takesF F n key 2 hint,0,false,some 9)
  else if F.free<2 then (takesF F n key 2 hint,0,false,some 8)
  else (setF (takesF F n key 2 hint) (F.of n) key (has (cur F.S (placeOf key F.P)).2 key) (fromOf (cur F.S (placeOf key F.P)).2 key) true v,fromOf (cur F.S (placeOf key F.P)).2 key,has (cur F.S (placeOf key F.P)).2 key,none)
theorem tab_few {N:Nat}{P:Int}{S:PSys}(h:PgOk N P S):(S.t.length:Int)≤S.frames:=by
  have h1:(S.t.map (·.1)).Nodup:=by
    unfold List.Nodup
    rw[List.pairwise_map]
    exact h.rise.imp fun hab e=>by omega
  have h2:=nodup_sub (b:=S.here.map (·.n)) h1 fun x hx=>by
    obtain⟨d,hd,rfl⟩:=List.mem_map.1 hx
    obtain⟨⟨f,hf,e⟩,_⟩:=h.tab d hd
    exact List.mem_map.2 ⟨f,hf,e⟩
  rw[List.length_map,List.length_map] at h2
  have:=h.few
  omega
theorem put_step {N m:Nat}{ch:Int→List Int}{kp:Int→Int}{F:FS}{own:Int→Int}{n key v:Int}(hint:Int)(h:FOk N m ch kp F)(hk:KOk own F.ks)(he:own key=n)(hid:thas F.ts (F.of n)=true)(hkey:0≤key∧key<1048576)(hv:is64 v) :
    ∃ch',FOk N (m+1) ch' kp (putR F n key v hint).1∧KOk own (putR F n key v hint).1.ks∧(putR F n key v hint).1.ks.length≤F.ks.length+1∧(putR F n key v hint).1.most=F.most∧(putR F n key v hint).1.of=F.of∧(putR F n key v hint).1.P=F.P∧(putR F n key v hint).1.sess=F.sess ∧
    (((putR F n key v hint).2.2.2=some 9∧(putR F n key v hint).1.free=F.free∧(putR F n key v hint).1.kept=F.kept) ∨
     ((putR F n key v hint).2.2.2=some 8∧F.free<2∧(putR F n key v hint).1.free=F.free∧(putR F n key v hint).1.kept=F.kept) ∨
     ((putR F n key v hint).2.2.2=none∧2≤F.free∧(putR F n key v hint).1.free=F.free - 2∧(putR F n key v hint).1.kept=F.kept+1)):=by
  obtain⟨t1,t2,t3,t4,t5,t6,t7,t8,t9⟩:=takes_ok h hk he hkey hint
  obtain⟨p1,p2⟩:=placeOf_in key h.g.pg.pages
  have hcur:=t5 _ p1 p2
  unfold putR
  by_cases hfl:has (cur F.S (placeOf key F.P)).2 key=false∧fullB (takesF F n key 2 hint) key=true
  · rw[if_pos hfl]
    exact⟨ch,t2,t3,t9,rfl,rfl,rfl,rfl,.inl ⟨rfl,rfl,rfl⟩⟩
  · rw[if_neg hfl]
    by_cases hfr:F.free<2
    · rw[if_pos hfr]
      exact⟨ch,t2,t3,t9,rfl,rfl,rfl,rfl,.inr (.inl ⟨rfl,hfr,rfl,rfl⟩)⟩
    · rw[if_neg hfr]
      obtain⟨x,x1,x2,x3,x4⟩:=t8
      have hp:=put_ok (F:=takesF F n key 2 hint) (id:=F.of n) (key:=key) (v:=v) t2 hid t6 hkey hv ⟨x,x1,x2,x3,by rw[x4];rfl⟩ (by show 2≤F.free;omega) (by
        show has (cur (takesF F n key 2 hint).S (placeOf key F.P)).2 key=true∨_
        rw[hcur]
        cases hq:has (cur F.S (placeOf key F.P)).2 key with
        | true=>exact .inl rfl
        | false=>exact .inr (Bool.eq_false_iff.2 fun e=>hfl ⟨hq,e⟩))
      have hP:(takesF F n key 2 hint).P=F.P:=rfl
      rw[hP,hcur] at hp
      obtain⟨_,_,_,h4,_⟩:=hp
      exact⟨_,h4,t3,t9,rfl,rfl,rfl,rfl,.inr (.inr ⟨rfl,by omega,rfl,rfl⟩)⟩
end Go.Proofs.YtaplpeoikebedaaGreatDoor.StoreJ
