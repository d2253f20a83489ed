/- Joined texts: StoreI, StoreJ, FwdT. No condition but what each says. -/
import Derived.Test.YtaplpeoikebedaaGreatDoorX24
import Derived.Test.YtaplpeoikebedaaGreatDoorX27
import Derived.Test.YtaplpeoikebedaaGreatDoorX28
import Derived.Test.YtaplpeoikebedaaGreatDoorX29
import Derived.Test.YtaplpeoikebedaaGreatDoorX18
import Derived.Deep.DeepCutAuto
import Derived.BigQuiet
set_option maxHeartbeats 8000000
set_option maxRecDepth 100000
set_option linter.unusedVariables false
set_option linter.unusedSimpArgs false
namespace Go.Proofs.YtaplpeoikebedaaGreatDoor.StoreI
open Go.RowKit See Mem Clone Go.Proofs.YtaplpeoikebedaaGreatDoor.Cell Page PageB PageR PageL Disk DiskN DiskW RecD Dirty Dirty2 SysD SysM Wal WalF GoodD PoolG PoolS FlushG Fresh DirtD PoolA TabL SortI AheadD Pager StoreD PageM StoreF StoreG StoreH LockT LockU
def newF (P blocks frames sess:Int):FS:=⟨sys0 (1+P+blocks).toNat (P+1) blocks frames,P,sess,[],[],0,blocks*6,0,fun _=>0⟩
theorem good_z (n:Nat):GoodD.Good (zdisk n) n:=⟨rfl,rfl,by simp[zdisk]⟩
theorem pageV_zero:PageV 0 []:=by
  refine⟨by decide,fun e he=>by cases he⟩
theorem cur_new {n:Nat}{f b fr k:Int}(h1:0≤k)(h2:k<n):cur (sys0 n f b fr) k=(0,[]):=by
  have:findP (sys0 n f b fr).here k=none:=rfl
  unfold cur
  rw[this]
  show (readPage (readV (zdisk n) k)).getD (0,[])=_
  rw[(readE_zero h1 h2).2,read_zero]
  rfl
theorem new_ok {P blocks frames sess:Int}(m:Nat)(h1:1≤P∧P≤32)(h2:1≤blocks∧blocks≤100)(h3:1≤frames):FOk (1+P+blocks).toNat m (fun _=>[]) (fun _=>2) (newF P blocks frames sess):=by
  have hN:(((1+P+blocks).toNat:Nat):Int)=1+P+blocks:=by omega
  refine⟨⟨⟨good_z _,h1.1,h3,rfl,?_,Nat.le_refl _,?_,List.Pairwise.nil,fun f hf=>(List.not_mem_nil hf).elim,List.Pairwise.nil,fun d hd=>(List.not_mem_nil hd).elim,fun k k1 k2 => ?_,fun f hf=>(List.not_mem_nil hf).elim⟩,?_,lg0_ok (by omega) (by omega),?_,zdisk_loose _ _,fun p p1 p2 => ?_,fun r hr=>(List.not_mem_nil hr).elim,h1.2,?_⟩,⟨List.Pairwise.nil,fun x hx=>(List.not_mem_nil hx).elim,?_,fun s hs=>absurd rfl hs,fun s t _ hs=>absurd rfl hs,fun x hx=>(List.not_mem_nil hx).elim⟩,⟨fun x hx=>(List.not_mem_nil hx).elim,fun x hx=>(List.not_mem_nil hx).elim,fun x hx=>(List.not_mem_nil hx).elim,rfl,fun p p1 p2 l hn hl => ?_⟩⟩
  · show (P+1)*6+((([]:List RecV).length:Nat):Int)≤_
    simp
    omega
  · show ((([]:List Fp).length:Nat):Int)≤frames
    simp
    omega
  · have k2':k≤P:=k2
    refine⟨(0,[]),?_,pageV_zero⟩
    show readV (zdisk _) k=_
    rw[(readE_zero (by omega) (by omega)).2,ErrD.page_zero]
  · show P+1+blocks≤_
    omega
  · show FuseOk (zdisk _)
    unfold FuseOk zdisk
    simp
  · have p2':p≤P:=p2
    show (cur (sys0 _ _ _ _) p).1≤_
    rw[cur_new (by omega) (by omega)]
    show (0:Int)≤_
    unfold Lg.last newF sys0 lg0
    simp
  · show 0≤blocks*6∧(0:Int)≤0∧blocks*6+0=(lg0 (P+1) blocks).room
    have:(lg0 (P+1) blocks).room=max (min (blocks*6 - 0) (1073741824 - (0+0))) 0:=rfl
    rw[this]
    omega
  · show (0:Int)≤0∧(0:Int)≤60000
    omega
  · have p2':p≤P:=p2
    show (cur (sys0 _ _ _ _) p).2.length+l.length≤20
    rw[cur_new (by omega) (by omega)]
    have:l=[]:=by
      rw[List.eq_nil_iff_forall_not_mem]
      intro k hk
      obtain⟨_,_,x,hx,_⟩:=hl k hk
      exact (List.not_mem_nil hx).elim
    rw[this]
    simp
structure KOk (own:Int→Int) (ks:List Lk):Prop where
  mode : ∀h∈ks,h.mode=2
  own : ∀h∈ks,own h.key=h.s
  once:(ks.map (·.key)).Nodup
  rng : ∀h∈ks,0≤h.key∧h.key<1048576
theorem KOk.nil (own:Int→Int):KOk own []:=⟨fun h hh=>(List.not_mem_nil hh).elim,fun h hh=>(List.not_mem_nil hh).elim,List.nodup_nil,fun h hh=>(List.not_mem_nil hh).elim⟩
theorem KOk.who {own:Int→Int}{ks:List Lk}(h:KOk own ks){s key:Int}(he:own key=s)(m:Int):whoL ks s key m=[]:=by
  unfold whoL
  rw[List.map_eq_nil_iff,List.filter_eq_nil_iff]
  intro x hx e
  unfold inWay at e
  simp only[Bool.and_eq_true,beq_iff_eq,bne_iff_ne] at e
  obtain⟨⟨⟨_,e1⟩,e2⟩,_⟩:=e
  have:=h.own x hx
  rw[e1,he] at this
  exact e2 this.symm
theorem KOk.held {own:Int→Int}{ks:List Lk}(h:KOk own ks):heldL ks=ks.map (·.key):=by
  unfold heldL
  rw[List.filter_eq_self.2 fun x hx=>by simp[h.mode x hx]]
theorem KOk.take {own:Int→Int}{ks:List Lk}(h:KOk own ks){s key:Int}(he:own key=s)(hkr:0≤key∧key<1048576) :
    KOk own (takeL ks s key 2)∧(takeL ks s key 2).length≤ks.length+1∧(∃x∈takeL ks s key 2,x.mode=2∧x.key=key∧x.s=s)∧∀x∈ks,x∈takeL ks s key 2:=by
  unfold takeL
  rcases lkIdx_or s key ks 0 with hi | ⟨i,f,hf,hi⟩
  · rw[hi,if_pos (by decide)]
    have hno : ∀x∈ks,x.key≠key:=fun x hx e=>by
      have hxs:x.s=s∧x.key=key:=⟨by rw[←h.own x hx,e,he],e⟩
      have key2 : ∀(l:List Lk) (n:Int),0≤n→x∈l→lkIdx s key l n≠-1:=by
        intro l
        induction l with
        | nil=>intro n _ hx;exact (List.not_mem_nil hx).elim
        | cons g gs ih=>
          intro n hn hx
          unfold lkIdx
          split
          · omega
          · rename_i hng
            rcases List.mem_cons.1 hx with rfl | hx
            · exact absurd hxs hng
            · exact ih (n+1) (by omega) hx
      exact key2 ks 0 (Int.le_refl _) hx hi
    refine⟨⟨fun x hx => ?_,fun x hx => ?_,?_,fun x hx => ?_⟩,by simp,⟨⟨s,key,2⟩,by simp,rfl,rfl,rfl⟩,fun x hx=>List.mem_append_left _ hx⟩
    · rcases List.mem_append.1 hx with hx | hx
      · exact h.mode x hx
      · rw[List.mem_singleton] at hx;rw[hx]
    · rcases List.mem_append.1 hx with hx | hx
      · exact h.own x hx
      · rw[List.mem_singleton] at hx;rw[hx];exact he
    · rw[List.map_append,List.nodup_append]
      refine⟨h.once,by simp,fun a ha b hb => ?_⟩
      obtain⟨x,hx,rfl⟩:=List.mem_map.1 ha
      simp at hb
      subst hb
      exact hno x hx
    · rcases List.mem_append.1 hx with hx | hx
      · exact h.rng x hx
      · rw[List.mem_singleton] at hx;rw[hx];exact hkr
  · rw[hi,if_neg (by omega)]
    have hm:f∈ks:=List.mem_of_getElem? hf
    have hq:f.s=s∧f.key=key:=by
      clear hm
      have key2 : ∀(l:List Lk) (n:Int) (i:Nat),0≤n→l[i]? = some f→lkIdx s key l n=n+i→f.s=s∧f.key=key:=by
        intro l
        induction l with
        | nil=>intro n i _ hx;simp at hx
        | cons g gs ih=>
          intro n i hn hx hl
          unfold lkIdx at hl
          split at hl
          · rename_i hg
            have:i=0:=by omega
            subst this
            simp at hx
            rw[←hx];exact hg
          · cases i with
            | zero=>
              exfalso
              rcases lkIdx_or s key gs (n+1) with h2 | ⟨j,_,_,h2⟩
              · rw[h2] at hl;simp at hl;omega
              · rw[h2] at hl;simp at hl;omega
            | succ i=>exact ih (n+1) i (by omega) (by simpa using hx) (by rw[hl];push_cast;omega)
      exact key2 ks 0 i (Int.le_refl _) hf hi
    have hid:(ks.modify (0+(i:Int)).toNat fun h=>⟨h.s,h.key,max h.mode 2⟩)=ks:=by
      rw[show (0+(i:Int)).toNat=i from by omega]
      apply List.ext_getElem?
      intro j
      rw[List.getElem?_modify]
      by_cases e:i=j
      · subst e
        rw[hf]
        simp[h.mode f hm]
        cases f
        simp at *
        exact (h.mode _ hm).symm
      · simp[e]
    rw[hid]
    exact⟨h,by omega,⟨f,hm,h.mode f hm,hq.2,hq.1⟩,fun x hx=>hx⟩
theorem nodup_sub : ∀{a b:List Int},a.Nodup→(∀x∈a,x∈b)→a.length≤b.length
  | [],b,_,_=>Nat.zero_le _
  | x :: xs,b,ha,hs=>by
    rw[List.nodup_cons] at ha
    have hx:=hs x List.mem_cons_self
    have h2:=nodup_sub (b:=b.erase x) ha.2 fun y hy=>by
      rw[List.mem_erase_of_ne (fun e=>ha.1 (by rw[←e];exact hy))]
      exact hs y (List.mem_cons_of_mem _ hy)
    have h3:=List.length_erase_of_mem hx
    have h4:0<b.length:=List.length_pos_of_mem hx
    simp
    omega
def moreL (F:FS)(key:Int):List Int:=(heldL F.ks).filter fun k => !(has (cur F.S (placeOf key F.P)).2 k) && (k != key && placeOf k F.P == placeOf key F.P)
def fullB (F:FS)(key:Int):Bool:=decide (20≤(cur F.S (placeOf key F.P)).2.length+(moreL F key).length)
theorem FOk.locks {N m:Nat}{ch:Int→List Int}{kp:Int→Int}{F:FS}(h:FOk N m ch kp F){ks:List Lk}(hk : ∀x∈F.ks,x∈ks):FOk N m ch kp { F with ks:=ks }:=
  ⟨⟨h.g.pg,h.g.fit,h.g.lok,h.g.fuse,h.g.loose,h.g.lsn,h.g.six,h.g.p32,h.g.room⟩,⟨h.t.rise,h.t.ids,h.t.most,h.t.ofs,h.t.inj,h.t.on⟩,⟨h.c.last,h.c.next,fun x hx k hk2 r hr=>by
    obtain⟨a,b,lk,c1,c2⟩:=h.c.sets x hx k hk2 r hr
    exact⟨a,b,lk,hk lk c1,c2⟩,h.c.kept,h.c.cap⟩⟩
theorem get_ok {N m:Nat}{ch:Int→List Int}{kp:Int→Int}{F:FS}(h:FOk N m ch kp F)(hint:Int){p:Int}(p1:1≤p)(p2:p≤F.P) :
    ∃S',getS F.S p hint=(S',cur F.S p,.fine)∧FOk N (m+1) ch kp { F with S:=S' }∧PgTo F.P F.S S'∧findP S'.here p=some ⟨p,(cur F.S p).1,(cur F.S p).2⟩:=by
  obtain⟨S',e1,e2,e3,e4⟩:=pg_get hint h.g.pg p1 p2
  have hl:=getS_tight p hint h.g.pg h.g.loose
  rw[e1] at hl
  refine⟨S',e1,h.to e2 e3 ?_ hl ?_,e3,e4⟩
  · have:=e2.good.fuse
    unfold FuseOk
    rw[this]
    omega
  · obtain⟨dn,q1,q2⟩:=e3.log
    have hd:=e2.done
    rw[q1] at hd ⊢
    have ho:=h.g.lok
    exact⟨ho.first,ho.blocks,ho.base,ho.epoch,ho.len,ho.last,hd,ho.recs⟩
def takesF (F:FS)(n key mode hint:Int):FS:={ F with ks:=takeL F.ks n key mode,S:=(getS F.S (placeOf key F.P) hint).1 }
theorem takes_ok {N m:Nat}{ch:Int→List Int}{kp:Int→Int}{F:FS}{own:Int→Int}(h:FOk N m ch kp F)(hk:KOk own F.ks){n key:Int}(he:own key=n)(hkr:0≤key∧key<1048576)(hint:Int) :
    getS F.S (placeOf key F.P) hint=((takesF F n key 2 hint).S,cur F.S (placeOf key F.P),.fine)∧FOk N (m+1) ch kp (takesF F n key 2 hint)∧KOk own (takesF F n key 2 hint).ks ∧
    (∀k,vals (takesF F n key 2 hint) k=vals F k)∧(∀p,1≤p→p≤F.P→cur (takesF F n key 2 hint).S p=cur F.S p)∧findP (takesF F n key 2 hint).S.here (placeOf key F.P)=some ⟨placeOf key F.P,(cur F.S (placeOf key F.P)).1,(cur F.S (placeOf key F.P)).2⟩∧(takesF F n key 2 hint).S.l.last=F.S.l.last ∧
    (∃x∈(takesF F n key 2 hint).ks,x.mode=2∧x.key=key∧x.s=n)∧(takesF F n key 2 hint).ks.length≤F.ks.length+1:=by
  obtain⟨p1,p2⟩:=placeOf_in key h.g.pg.pages
  obtain⟨k1,k2,k3,k4⟩:=hk.take he hkr
  obtain⟨S',e1,e2,e3,e4⟩:=get_ok h hint p1 p2
  have hS:(takesF F n key 2 hint).S=S':=by unfold takesF;rw[e1]
  have hF:takesF F n key 2 hint={ F with ks:=takeL F.ks n key 2,S:=S' }:=by unfold takesF;rw[e1]
  obtain⟨l1,l2,l3,l4,l5⟩:=e3.ll
  rw[hF]
  refine⟨e1,FOk.locks e2 k4,k1,fun k => ?_,e3.cur,e4,?_,k3,k2⟩
  · exact vals_to h.g.pg.pages e3 k
  · exact (room_done (L:=F.S.l) (L':=S'.l) ⟨l2,l3,l1⟩).2
theorem put_ok {N m:Nat}{ch:Int→List Int}{kp:Int→Int}{F:FS}{id key v:Int}{fp:Fp}(h:FOk N m ch kp F)(hid:thas F.ts id=true)(hf:findP F.S.here (placeOf key F.P)=some fp)(hk:0≤key∧key<1048576)(hv:is64 v)
    (hh : ∃lk∈F.ks,lk.mode=2∧lk.key=key∧F.of lk.s=id) (hfr:2≤F.free) (hfull:has (cur F.S (placeOf key F.P)).2 key=true∨fullB F key=false) :
    setS (addRec F.S (recSet (tget F.ts id) F.P key (has (cur F.S (placeOf key F.P)).2 key) (fromOf (cur F.S (placeOf key F.P)).2 key) true v)) (placeOf key F.P) (F.S.l.last+1) (redoE (cur F.S (placeOf key F.P)).2 (recSet (tget F.ts id) F.P key (has (cur F.S (placeOf key F.P)).2 key) (fromOf (cur F.S (placeOf key F.P)).2 key) true v))=((setF F id key (has (cur F.S (placeOf key F.P)).2 key) (fromOf (cur F.S (placeOf key F.P)).2 key) true v).S,none)∧recOk (recSet (tget F.ts id) F.P key (has (cur F.S (placeOf key F.P)).2 key) (fromOf (cur F.S (placeOf key F.P)).2 key) true v)=true∧(redoE (cur F.S (placeOf key F.P)).2 (recSet (tget F.ts id) F.P key (has (cur F.S (placeOf key F.P)).2 key) (fromOf (cur F.S (placeOf key F.P)).2 key) true v)).length≤20 ∧
    FOk N m (updc ch id ((F.S.l.last+1) :: ch id)) kp (setF F id key (has (cur F.S (placeOf key F.P)).2 key) (fromOf (cur F.S (placeOf key F.P)).2 key) true v)∧∀k,vals (setF F id key (has (cur F.S (placeOf key F.P)).2 key) (fromOf (cur F.S (placeOf key F.P)).2 key) true v) k=if k=key then some v else vals F k:=by
  obtain⟨p1,p2⟩:=placeOf_in key h.g.pg.pages
  have hpv:=h.g.pg.curV p1 p2
  have hrise:=PageV.rise hpv
  have hv2:val (cur F.S (placeOf key F.P)).2 key=vals F key:=rfl
  have hold:is64 (fromOf (cur F.S (placeOf key F.P)).2 key)∧(has (cur F.S (placeOf key F.P)).2 key=false→fromOf (cur F.S (placeOf key F.P)).2 key=0):=by
    rw[from_val hrise,has_val hrise]
    cases hx:val (cur F.S (placeOf key F.P)).2 key with
    | none=>exact⟨by unfold is64;simp,fun _=>rfl⟩
    | some x=>
      have:=(val_some hrise key x).1 hx
      exact⟨hpv.2 _ this,fun e=>by simp at e⟩
  have:=set_ok (key:=key) (had:=has (cur F.S (placeOf key F.P)).2 key) (has:=true) (old:=fromOf (cur F.S (placeOf key F.P)).2 key) (new:=v) h hid hf hk ⟨hold.1,hv⟩ hold.2 (fun e=>by cases e) (.inr rfl) hh hfr (fun hn _ l hl hl2 => ?_) (fun e=>by cases e)
  · obtain⟨a,b,c,d,e⟩:=this
    exact⟨a,b,c,d,fun k=>by rw[e k];simp⟩
  · have hno:has (cur F.S (placeOf key F.P)).2 key=false:=by rw[has_val hrise,hv2,hn];rfl
    have hfb:=hfull.resolve_left (by rw[hno];decide)
    unfold fullB at hfb
    have hlt:(cur F.S (placeOf key F.P)).2.length+(moreL F key).length<20:=by simpa using hfb
    have:=nodup_sub (b:=moreL F key) hl fun k hk2=>by
      obtain⟨q1,q2,q3,lk,q4,q5,q6⟩:=hl2 k hk2
      unfold moreL
      rw[List.mem_filter]
      refine⟨?_,?_⟩
      · unfold heldL
        exact List.mem_map.2 ⟨lk,List.mem_filter.2 ⟨q4,by simp[q5]⟩,q6⟩
      · have:has (cur F.S (placeOf key F.P)).2 k=false:=by
          rw[has_val hrise]
          unfold vals at q3
          rw[q2] at q3
          rw[q3];rfl
        simp[this,q1,q2]
    omega
end Go.Proofs.YtaplpeoikebedaaGreatDoor.StoreI
namespace Go.Proofs.YtaplpeoikebedaaGreatDoor.StoreJ
open Go.RowKit See Mem Page PageB PageR PageL Disk DiskW RecD Dirty Dirty2 SysD SysM Wal WalF GoodD PoolG PoolS FlushG Fresh DirtD Pager StoreD PageM StoreF StoreG StoreH LockT LockU StoreI
def putR (F:FS)(n key v hint:Int):FS×Int×Bool×Option Nat:=
  if has (cur F.S (placeOf key F.P)).2 key=false∧fullB (takesF F n key 2 hint) key=true then (takesF F n key 2 hint,0,false,some 9)
  else if F.free<2 then (takesF F n key 2 hint,0,false,some 8)
  else (setF (takesF F n key 2 hint) (F.of n) key (has (cur F.S (placeOf key F.P)).2 key) (fromOf (cur F.S (placeOf key F.P)).2 key) true v,fromOf (cur F.S (placeOf key F.P)).2 key,has (cur F.S (placeOf key F.P)).2 key,none)
theorem FOk.loosen {N m m':Nat}{ch:Int→List Int}{kp:Int→Int}{F:FS}(h:FOk N m ch kp F)(hm:m≤m'):FOk N m' ch kp F:=
  ⟨⟨h.g.pg,h.g.fit,h.g.lok,h.g.fuse,h.g.loose.mono hm,h.g.lsn,h.g.six,h.g.p32,h.g.room⟩,h.t,h.c⟩
theorem tab_few {N:Nat}{P:Int}{S:PSys}(h:PgOk N P S):(S.t.length:Int)≤S.frames:=by
  have h1:(S.t.map (·.1)).Nodup:=by
    unfold List.Nodup
    rw[List.pairwise_map]
    exact h.rise.imp fun hab e=>by omega
  have h2:=nodup_sub (b:=S.here.map (·.n)) h1 fun x hx=>by
    obtain⟨d,hd,rfl⟩:=List.mem_map.1 hx
    obtain⟨⟨f,hf,e⟩,_⟩:=h.tab d hd
    exact List.mem_map.2 ⟨f,hf,e⟩
  rw[List.length_map,List.length_map] at h2
  have:=h.few
  omega
end Go.Proofs.YtaplpeoikebedaaGreatDoor.StoreJ
namespace Go.Proofs.YtaplpeoikebedaaGreatDoor.FwdT
open Go.RowKit Go.Maps YtaplpeoikebedaaGreatDoorW.PrintWords YtaplpeoikebedaaGreatDoorW.PrintLast YtaplpeoikebedaaGreatDoorW.PrintMore
open See Mem Page Disk DiskN DiskW RecD Dirty Wal WalF SysD SysM PoolG Pager StoreD PageM StoreF StoreI StoreJ TransT LockT LockU SpaceT WaitT FwdM FwdP FwdC PageO
attribute [local go_sem] max2_imax min2_imin max_two min_two
theorem place_at (key P q:Int)(h0:0≤key)(h1:key<1048576)(h2:1≤P)(h3:P≤1000)(hq:placeOf key P=q)(w:World) :
    Calls Tryz.prog 125 #[.int .i64 key,.int .i64 P] w fun e w'=>e = .returned (.int .i64 q)∧w=w':=by
  subst hq;exact place_calls key P h0 h1 h2 h3 w
theorem neq_nil (x:Addr)(w:World):(binOp .neq 37 .nilIface (.iface 333 (.pointer (some x)))).run Tryz.prog w = .ok (.bool true) w:=by kernel_rfl
def pgPut (w:World)(b:Nat)(l:Int)(v:Value):World:=(w.setCell ⟨b,0,none⟩ (.int .i64 l)).setCell ⟨b,1,none⟩ v
theorem pgPut_heap {w:World}{b:Nat}{x0 x1:Value}(h:w.heap[b]? = some (.cells #[x0,x1] 74 (0,0)))(l:Int)(v:Value):(pgPut w b l v).heap[b]? = some (.cells #[.int .i64 l,v] 74 (0,0)):=by
  have h0:=heap_setCell_same w b 0 _ _ (.int .i64 l) h
  have h1:=heap_setCell_same _ b 1 _ _ v h0
  have e:(((#[x0,x1]:Array Value).setIfInBounds 0 (.int .i64 l)).setIfInBounds 1 v) = #[.int .i64 l,v]:=by simp
  rw[e] at h1
  exact h1
theorem pgPut_other {w:World}{b k:Nat}(h:k≠b)(l:Int)(v:Value):(pgPut w b l v).heap[k]? = w.heap[k]? := by
  unfold pgPut
  rw[Below.heap_setCell _ _ _ _ h,Below.heap_setCell _ _ _ _ h]
theorem pgPut_below {B:Nat}{w w1:World}{b:Nat}(h:Below B w w1)(hb:B≤b)(l:Int)(v:Value):Below B w (pgPut w1 b l v):=(h.setCell hb _).setCell hb _
theorem pg_cells {w:World}{b:Nat}{x0 x1:Value}(h:w.heap[b]? = some (.cells #[x0,x1] 74 (0,0))) :
    w.frozen? ⟨b,0,none⟩=false∧w.frozen? ⟨b,1,none⟩=false∧w.cell? ⟨b,0,none⟩=some x0∧w.cell? ⟨b,1,none⟩=some x1:=by
  refine⟨?_,?_,?_,?_⟩<;>simp[World.frozen?,World.cell?,h]
theorem FwM.but {R:Nat→Prop}{w w':World}{sp lp pp dp qp mp:Nat}{blocks frames:Int}{F:FS}(h:FwM R w sp lp pp dp qp mp blocks frames F){b:Nat}(hb : ∀k,k≠b→w'.heap[k]? = w.heap[k]?)(hn : ¬R b)(ht:tag w b∉dTags∧tag w b≠169):FwM R w' sp lp pp dp qp mp blocks frames F:=
  FwM.out h fun k hk hh=>hb k fun e=>by
    subst e
    rcases hh with hh | hh | hh
    · exact hn hh
    · exact ht.1 hh
    · exact ht.2 hh
theorem p2_but {w w':World}{v:Value}{es:List (Int×Int)}(h:P2 w 169 v es){b:Nat}(hb : ∀k,k≠b→w'.heap[k]? = w.heap[k]?)(ht:tag w b≠169):P2 w' 169 v es:=
  ⟨ow_move h.1 fun k hk=>hb k fun e=>by
    subst e
    obtain⟨_,c,hc⟩:=ow_block h.1 hk
    exact ht (tag_of hc),h.2⟩
theorem Kp.then {M:Nat→Prop}{w w1 w2:World}(h:Kp M w w1)(k:Below w.heap.size w1 w2):Kp M w w2:=
  ⟨k.os.trans h.os,k.tape.trans h.tape,k.output.trans h.output,Nat.le_trans h.size k.size,fun i hi hn=>(k.block i hi).trans (h.block i hi hn),fun i hi ht=>(k.block i hi).trans (h.ent i hi ht)⟩
def z2p:Obj:=.cells #[.int .i64 0,.slice none 0 0] 74
def TakesPost (M:Nat→Prop)(sp lp pp dp qp mp:Nat)(blocks frames:Int)(F:FS)(n key hint:Int)(w:World)(e:Ending)(w':World):Prop:=
  ∃sl,e = .returned (.tuple #[txV (tget F.ts (F.of n)),.agg #[.int .i64 (cur F.S (placeOf key F.P)).1,sl],.nilIface])∧P2 w' 169 sl (cur F.S (placeOf key F.P)).2∧FwPost M sp lp pp dp qp mp blocks frames (takesF F n key 2 hint) w w'
structure TB (M:Nat→Prop) (sp lp pp dp qp mp:Nat) (blocks frames:Int) (F:FS) (es:List (Int×Int)) (w:World) (bx:Nat) (X:Obj) (R:Nat→Prop) (sl:Value) (w3:World):Prop where
  p:P2 w3 169 sl es
  f:FwM R w3 sp lp pp dp qp mp blocks frames F
  r : ∀k,R k→Gr M w w3 k
  n0 : ¬R w.heap.size
  n1 : ¬R (w.heap.size+1)
  k:Kp M w w3
  b0:w3.heap[w.heap.size]? = some z4
  b1:w3.heap[w.heap.size+1]? = some z2p
  bx:w3.heap[bx]? = some X
section
variable {M:Nat→Prop}{sp lp pp dp qp mp:Nat}{blocks frames:Int}{F F2:FS}{es:List (Int×Int)}{w:World}{bx:Nat}{X:Obj}{R:Nat→Prop}{sl:Value}{w3 w4:World}
theorem TB.below (h:TB M sp lp pp dp qp mp blocks frames F es w bx X R sl w3)(hb:Below w3.heap.size w3 w4):TB M sp lp pp dp qp mp blocks frames F es w bx X R sl w4:=
  ⟨h.p.below hb,h.f.below hb,fun k hk=>Gr.grow hb.size (h.r k hk),h.n0,h.n1,h.k.step hb,(hb.block _ (heap_lt h.b0)).trans h.b0,(hb.block _ (heap_lt h.b1)).trans h.b1,(hb.block _ (heap_lt h.bx)).trans h.bx⟩
theorem TB.pg (h:TB M sp lp pp dp qp mp blocks frames F es w bx X R sl w3){b:Nat}{x0 x1:Value}(hb:w3.heap[b]? = some (.cells #[x0,x1] 74 (0,0)))(hn : ¬R b)(hw:w.heap.size≤b)(h0:b≠w.heap.size)(h1:b≠w.heap.size+1)(h2:b≠bx)(l:Int)(v:Value) :
    TB M sp lp pp dp qp mp blocks frames F es w bx X R sl (pgPut w3 b l v):=by
  have ht:tag w3 b∉dTags∧tag w3 b≠169:=by rw[tag_of hb];decide
  have ho : ∀k,k≠b→(pgPut w3 b l v).heap[k]? = w3.heap[k]? := fun k hk=>pgPut_other hk l v
  have hsz:(pgPut w3 b l v).heap.size=w3.heap.size:=by unfold pgPut;simp[World.setCell]
  refine⟨p2_but h.p ho ht.2,FwM.but h.f ho hn ht,fun k hk=>Gr.grow (Nat.le_of_eq hsz.symm) (h.r k hk),h.n0,h.n1,Kp.then h.k (pgPut_below (Below.refl _ _) hw l v),(ho _ h0.symm).trans h.b0,(ho _ h1.symm).trans h.b1,(ho _ h2.symm).trans h.bx⟩
structure TE (M:Nat→Prop) (sp lp pp dp qp mp:Nat) (blocks frames:Int) (F:FS) (es:List (Int×Int)) (w:World) (x:Tx) (l:Int) (sl:Value) (w3:World):Prop where
  p:P2 w3 169 sl es
  f:FwPost M sp lp pp dp qp mp blocks frames F w w3
  b0:w3.heap[w.heap.size]? = some (.cells #[.int .i64 x.id,.int .i64 x.state,.int .i64 x.last,.int .i64 x.next] 102 (0,0))
  b1:w3.heap[w.heap.size+1]? = some (.cells #[.int .i64 l,sl] 74 (0,0))
theorem TB.fin1 (h:TB M sp lp pp dp qp mp blocks frames F es w bx X R sl w3)(x:Tx)(l:Int):TE M sp lp pp dp qp mp blocks frames F es w x l sl (pgPut (txPut w3 w.heap.size x) (w.heap.size+1) l sl):=by
  have o1 : ∀k,k≠w.heap.size→(txPut w3 w.heap.size x).heap[k]? = w3.heap[k]? := fun k hk=>txPut_other hk x
  have t1:tag w3 w.heap.size∉dTags∧tag w3 w.heap.size≠169:=by rw[show tag w3 w.heap.size=102 from tag_of h.b0];decide
  have q1:(txPut w3 w.heap.size x).heap[w.heap.size+1]? = some z2p:=(o1 _ (by omega)).trans h.b1
  have t2:tag (txPut w3 w.heap.size x) (w.heap.size+1)∉dTags∧tag (txPut w3 w.heap.size x) (w.heap.size+1)≠169:=by rw[show tag (txPut w3 w.heap.size x) (w.heap.size+1)=74 from tag_of q1];decide
  have o2 : ∀k,k≠w.heap.size+1→(pgPut (txPut w3 w.heap.size x) (w.heap.size+1) l sl).heap[k]? = (txPut w3 w.heap.size x).heap[k]? := fun k hk=>pgPut_other hk l sl
  have hsz:(pgPut (txPut w3 w.heap.size x) (w.heap.size+1) l sl).heap.size=w3.heap.size:=by unfold pgPut txPut;simp[World.setCell]
  have p1:=txPut_heap h.b0 x
  exact⟨p2_but (p2_but h.p o1 t1.2) o2 t2.2,⟨FwM.mono (FwM.but (FwM.but h.f o1 h.n0 t1) o2 h.n1 t2) fun k hk=>Gr.grow (Nat.le_of_eq hsz.symm) (h.r k hk),Kp.then h.k (pgPut_below (txPut_below (Below.refl _ _) (Nat.le_refl _) x) (by omega) l sl)⟩,(o2 _ (by omega)).trans p1,pgPut_heap q1 l sl⟩
theorem TE.below {x:Tx}{l:Int}(h:TE M sp lp pp dp qp mp blocks frames F es w x l sl w3)(hb:Below w3.heap.size w3 w4):TE M sp lp pp dp qp mp blocks frames F es w x l sl w4:=
  ⟨h.p.below hb,h.f.step hb,(hb.block _ (heap_lt h.b0)).trans h.b0,(hb.block _ (heap_lt h.b1)).trans h.b1⟩
end
def GetIn (M:Nat→Prop)(sp lp pp dp qp mp:Nat)(blocks frames:Int)(F:FS)(l0:Int)(es:List (Int×Int))(w:World)(bx:Nat)(X:Obj)(R2:Nat→Prop)(V:World)(e:Ending)(w3:World):Prop:=
  ∃sl,e = .returned (.tuple #[.agg #[.int .i64 l0,sl],.nilIface])∧TB M sp lp pp dp qp mp blocks frames F es w bx X (Gr R2 V w3) sl w3∧Kp R2 V w3
theorem getin {M:Nat→Prop}{sp lp pp dp qp mp:Nat}{blocks frames:Int}{F:FS}{l0:Int}{es:List (Int×Int)}{w:World}{bx:Nat}{X:Obj}{W1 w2 V w3:World}{sl:Value}(hp:P2 w3 169 sl es)
    (hpost:FwPost (Gr (Cut M w.heap.size) W1 w2) sp lp pp dp qp mp blocks frames F V w3) (h1:Below w.heap.size w W1) (h2:Kp (Cut M w.heap.size) W1 w2) (h3:Below w2.heap.size w2 V)
    (b0:W1.heap[w.heap.size]? = some z4) (b1:W1.heap[w.heap.size+1]? = some z2p) (hx:W1.heap[bx]? = some X) (hbx:w.heap.size≤bx) :
    GetIn M sp lp pp dp qp mp blocks frames F l0 es w bx X (Gr (Cut M w.heap.size) W1 w2) V (.returned (.tuple #[.agg #[.int .i64 l0,sl],.nilIface])) w3:=by
  obtain⟨f,k⟩:=hpost
  have hnc : ∀j,w.heap.size≤j→j<W1.heap.size→¬Gr (Cut M w.heap.size) W1 w2 j:=fun j hj hj2 hc=>by
    rcases hc with hc | ⟨c1,c2⟩
    · have:=hc.2;omega
    · omega
  have s1:=h1.size
  have s2:=h2.size
  have s3:=h3.size
  have s4:=k.size
  have l0':=heap_lt b0
  have l1':=heap_lt b1
  have lx:=heap_lt hx
  have keep : ∀{j:Nat} {o:Obj},W1.heap[j]? = some o→w.heap.size≤j→w3.heap[j]? = some o:=fun {j o} ho hj=>by
    have hl:=heap_lt ho
    have e2:=h2.at ho (fun hc=>by have:=hc.2;omega)
    have e3:=(h3.block _ (heap_lt e2)).trans e2
    exact k.at e3 (hnc _ hj hl)
  have hng : ∀j,w.heap.size≤j→j<W1.heap.size→¬Gr (Gr (Cut M w.heap.size) W1 w2) V w3 j:=fun j hj hj2 hc=>by
    rcases hc with hc | ⟨c1,c2⟩
    · exact hnc j hj hj2 hc
    · omega
  refine⟨sl,rfl,⟨hp,f,fun j hj => ?_,hng _ (Nat.le_refl _) l0',hng _ (by omega) l1',?_,keep b0 (Nat.le_refl _),keep b1 (by omega),keep hx hbx⟩,k⟩
  · rcases hj with (hj | ⟨c1,c2⟩) | ⟨c1,c2⟩
    · exact .inl hj.1
    · exact .inr ⟨by omega,by omega⟩
    · exact .inr ⟨by omega,c2⟩
  · have k1:Kp M w W1:=.of_below h1
    have k2:Kp M w w2:=k1.trans (h2.wide fun j hj=>hj.1)
    have k3:=k2.step h3
    refine⟨k.os.trans k3.os,k.tape.trans k3.tape,k.output.trans k3.output,Nat.le_trans k3.size k.size,fun j hj hn => ?_,fun j hj ht => ?_⟩
    · refine (k.block j (by omega) fun hc => ?_).trans (k3.block j hj hn)
      rcases hc with hc | ⟨c1,_⟩
      · exact hn hc.1
      · omega
    · have e:=k3.ent j hj ht
      exact (k.ent j (by omega) (by rw[tag_eq e];exact ht)).trans e
theorem takes_calls (a:Nat→Addr)(M:Nat→Prop)(sp lp pp dp qp mp:Nat)(blocks frames:Int)(F:FS)(n key hint:Int)(N m:Nat)(ch:Int→List Int)(kp:Int→Int)(own:Int→Int)(w:World)(h:FwM M w sp lp pp dp qp mp blocks frames F)(hok:FOk N m ch kp F)(hk:KOk own F.ks)(he:own key=n)(hs:SentsAll w a)(hO:OutAll M a)(h0:0≤n)(h1:n<F.sess)(h2:F.sess≤1000)
    (hx:thas F.ts (F.of n)=true) (hk0:0≤key) (hk1:key<1048576) (hl:F.ks.length≤80000) (hm:m≤30000) (hh0 : -9223372036854775808≤hint) (hh1:hint≤9223372036854775807) :
    Calls Tryz.prog 69 #[.pointer (some ⟨sp,0,none⟩),.int .i64 n,.int .i64 key,.int .i64 2,.int .i64 hint] w (TakesPost M sp lp pp dp qp mp blocks frames F n key hint w):=by
  have HF:=Aside0.mk (FwM.cut h)
  have HC:=Aside0.mk (fun (W:World) (hb:Below w.heap.size w W)=>called_calls _ sp lp pp dp qp mp blocks frames F n W (h.below hb) h0 h1 h2 hx hok.t.rise)
  have HS:=Aside0.mk hs
  have HO:=Aside0.mk hO
  have HOK:=Aside0.mk hok
  have HK:=Aside0.mk hk
  have HE:=Aside0.mk he
  have HL:=Aside0.mk hl
  have HM:=Aside0.mk hm
  have HHB:=Aside0.mk (And.intro hh0 hh1)
  have q0:decide (key<0)=false:=decide_eq_false (by omega)
  have q1:decide (1048576≤key)=false:=decide_eq_false (by omega)
  have hspl:sp<w.heap.size:=by obtain⟨kv,tv,b1,_⟩:=h.box;exact heap_lt b1
  obtain⟨x,hxx⟩ : ∃x,tget F.ts (F.of n)=x:=⟨_,rfl⟩
  have HXX:=Aside0.mk hxx
  rw[hxx] at HC
  obtain⟨xi,xs,xl,xn⟩:=x
  clear h hok hk he hs hO hl hm hx hxx h0 h1 h2 hh0 hh1
  go_enter Tryz.func69,Tryz.ntmps69
  go_wp2_with fail
  refine (HC.out _ (by repeat (first | exact Below.refl _ _ | apply below_drew1 | apply below_alloc))).mono ?_
  rintro e w1 ⟨rfl,hb⟩
  obtain⟨W,hW⟩ : ∃W,(w.alloc z4).alloc z2p=W:=⟨_,rfl⟩
  have hz0:W.heap[w.heap.size]? = some z4:=by rw[←hW];exact (Below.heap_alloc _ _ _ (by show _<(w.heap.push _).size;rw[Array.size_push];omega)).trans (heap_alloc_new w _)
  have hz1:W.heap[w.heap.size+1]? = some z2p:=by
    rw[←hW];have:=heap_alloc_new (w.alloc z4) z2p;rw[show (w.alloc z4).heap.size=w.heap.size+1 from by show (w.heap.push _).size=_;rw[Array.size_push]] at this;exact this
  have hsW:W.heap.size=w.heap.size+2:=by rw[←hW];show ((w.heap.push _).push _).size=_;rw[Array.size_push,Array.size_push]
  rw[show (w.alloc (.cells #[.int .i64 0,.int .i64 0,.int .i64 0,.int .i64 0] 102)).alloc (.cells #[.int .i64 0,.slice none 0 0] 74)=W from hW] at hb
  have hB0:Below w.heap.size w W:=by rw[←hW];repeat (first | exact Below.refl _ _ | apply below_drew1 | apply below_alloc)
  have hB:=below_step hB0 hb
  have HQ0:=Aside0.mk ((hb.block _ (heap_lt hz0)).trans hz0)
  have HQ1:=Aside0.mk ((hb.block _ (heap_lt hz1)).trans hz1)
  have hs1:w.heap.size+2≤w1.heap.size:=by have:=hb.size;omega
  obtain⟨bx,hbx⟩ : ∃bx,w1.heap.size=bx:=⟨_,rfl⟩
  obtain⟨W1,hW1⟩ : ∃W1,w1.alloc (.cells #[.int .i64 xi,.int .i64 xs,.int .i64 xl,.int .i64 xn] 102)=W1:=⟨_,rfl⟩
  have hBW:Below w.heap.size w W1:=by rw[←hW1];exact below_alloc hB _
  have hg1:W1.cell? ⟨6,0,none⟩=some (.iface 333 (.pointer (some (a 1)))):=(HS.out.below hBW).cell 1 (by decide)
  have HXB:=Aside0.mk (show W1.heap[bx]? = some (.cells #[.int .i64 xi,.int .i64 xs,.int .i64 xl,.int .i64 xn] 102 (0,0)) from by rw[←hW1,←hbx];exact heap_alloc_new _ _)
  have hsW1:W1.heap.size=bx+1:=by rw[←hW1,←hbx];show (w1.heap.push _).size=_;rw[Array.size_push]
  have HQ0':=Aside0.mk (show W1.heap[w.heap.size]? = some z4 from by rw[←hW1];exact (Below.heap_alloc _ _ _ (by omega)).trans HQ0.out)
  have HQ1':=Aside0.mk (show W1.heap[w.heap.size+1]? = some z2p from by rw[←hW1];exact (Below.heap_alloc _ _ _ (by omega)).trans HQ1.out)
  have HFW:=Aside0.mk (HF.out.below hBW)
  have HBW:=Aside0.mk hBW
  have HWE:=Aside0.mk hW1
  have HBX:=Aside0.mk hbx
  obtain⟨c0,_,_,_,_,_,_,_⟩:=HFW.out.cells
  have hspW:sp<W1.heap.size:=by omega
  have he:=neq_nil (a 1) W1
  simp only[txV,z4,z2p] at *
  clear hb hB hB0 hW hW1 hBW hz0 hz1 hsW hbx
  go_upto_region 2 with fail
  rw[show w1.alloc (.cells #[.int .i64 xi,.int .i64 xs,.int .i64 xl,.int .i64 xn] 102)=W1 from HWE.out]
  go_upto_region 6 with fail
  obtain⟨cs,kv,hlk,hput⟩:=FwM.lks HFW.out
  have HLK:=Aside0.mk hlk
  have HPUT:=Aside0.mk hput
  clear hlk hput
  go_wp2_with fail
  refine (take_calls _ sp 6 118 cs kv F.ks n key 2 _ HLK.out (.inr rfl) (HK.out.who HE.out 2) (by have:=HL.out;omega)).mono ?_
  rintro e w2 ⟨rfl,hpost⟩
  have HP2:=Aside0.mk (HPUT.out _ _ hpost)
  clear hpost HLK HPUT
  have k0:w2.cell? ⟨sp,0,none⟩=some (.int .i64 F.P):=HP2.out.1.cells.1
  have k5:=HP2.out.1.cells.2.2.2.1
  have HS1:=Aside0.mk (HS.out.below HBW.out)
  have HOC:=Aside0.mk (OutAll.sub (M':=Cut M w.heap.size) HO.out fun k hk=>hk.1)
  have HS2:=Aside0.mk (SentsAll.kp HS1.out HP2.out.2 HOC.out)
  have HOG:=Aside0.mk (OutAll.gr (w':=w2) HOC.out HS1.out)
  have hnc : ∀k,w.heap.size≤k→¬Cut M w.heap.size k:=fun k hk hc=>by have:=hc.2;omega
  have hsW2:W1.heap.size≤w2.heap.size:=HP2.out.2.size
  have hsp2:sp<w2.heap.size:=by omega
  have hsB:w.heap.size≤bx:=by have:=HBX.out;omega
  have HT0:=Aside0.mk (fun (V:World) (hb:Below w2.heap.size w2 V)=>by
    obtain⟨p1,p2⟩:=placeOf_in key HOK.out.g.pg.pages
    obtain⟨t1,_⟩:=takes_ok HOK.out HK.out HE.out ⟨hk0,hk1⟩ hint
    have hg:=get_pool a _ pp lp dp F.S (placeOf key F.P) hint V ((HS2.out.below hb).k _ (by decide)) (HOG.out.k _ (by decide)) (HP2.out.1.below hb).sys (HOK.out.g.loose.mono (by have:=HM.out;omega)) HHB.out.1 HHB.out.2
    exact hg.mono fun e w3=>by
      rintro⟨sl,ev,rfl,hp,hv,hx,hf⟩
      rw[t1] at hp hv hx ⊢
      have hev:ev = .nilIface:=hv
      subst hev
      have hpost:=FwM.sy (HP2.out.1.below hb) hx hf
      exact (getin (X:=.cells #[.int .i64 xi,.int .i64 xs,.int .i64 xl,.int .i64 xn] 102 (0,0)) (bx:=bx) hp hpost HBW.out HP2.out.2 hb HQ0'.out HQ1'.out HXB.out hsB))
  obtain⟨pk,hpk⟩ : ∃pk,placeOf key F.P=pk:=⟨_,rfl⟩
  obtain⟨P,hP⟩ : ∃P,F.P=P:=⟨_,rfl⟩
  have HPK:=Aside0.mk (show placeOf key P=pk by rw[←hP];exact hpk)
  have HPB:=Aside0.mk (show 1≤P∧P≤1000 by rw[←hP];have:=HOK.out.g.pg.pages;have:=HOK.out.g.p32;omega)
  obtain⟨l0,hl0⟩ : ∃l0,(cur F.S (placeOf key F.P)).1=l0:=⟨_,rfl⟩
  obtain⟨es,hes⟩ : ∃es,(cur F.S (placeOf key F.P)).2=es:=⟨_,rfl⟩
  rw[hl0,hes,hpk] at HT0
  rw[hP] at k0
  have HLE:=Aside0.mk (And.intro hl0 hes)
  have HT1:=Aside0.mk (fun (V:World) (hb:Below w2.heap.size w2 V) (b:Nat) (o:Obj) (hx:V.heap[b]? = some o) (hb1:w2.heap.size≤b)=>(HT0.out V hb).mono (fun e w3 (h:GetIn M sp lp pp dp qp mp blocks frames (takesF F n key 2 hint) l0 es w bx (.cells #[.int .i64 xi,.int .i64 xs,.int .i64 xl,.int .i64 xn] 102 (0,0)) (Gr (Cut M w.heap.size) W1 w2) V e w3)=>(⟨h,by
    obtain⟨sl,_,_,hk⟩:=h
    refine hk.at hx fun hc => ?_
    rcases hc with hc | ⟨c1,c2⟩
    · have:=hc.2;omega
    · omega⟩:GetIn M sp lp pp dp qp mp blocks frames (takesF F n key 2 hint) l0 es w bx (.cells #[.int .i64 xi,.int .i64 xs,.int .i64 xl,.int .i64 xn] 102 (0,0)) (Gr (Cut M w.heap.size) W1 w2) V e w3∧w3.heap[b]? = some o)))
  clear hpk hP hl0 hes
  have HNG:=fun (V w3:World) (hv:w2.heap.size<V.heap.size) (hc:Gr (Gr (Cut M w.heap.size) W1 w2) V w3 w2.heap.size)=>(show False from by
    rcases hc with (hc | ⟨c1,c2⟩) | ⟨c1,c2⟩
    · have:=hc.2;have:=HBX.out;omega
    · omega
    · omega)
  have hs12:w.heap.size+2≤bx∧bx<w2.heap.size:=by have:=HBX.out;omega
  go_upto_region 12 with fail
  go_cut [14,15] (fun v14 v15 wx=>v14 = .nilIface∧∃(b:Nat) (sl:Value) (R:Nat→Prop),v15 = .pointer (some ⟨b,0,none⟩)∧Aside0 (wx.heap[b]? = some (.cells #[.int .i64 l0,sl] 74 (0,0)))∧Aside0 (TB M sp lp pp dp qp mp blocks frames (takesF F n key 2 hint) es w bx (.cells #[.int .i64 xi,.int .i64 xs,.int .i64 xl,.int .i64 xn] 102 (0,0)) R sl wx)∧Aside0 (w.heap.size+2≤b))
  case first=>
    go_region_law (first
      | (go_simp;go_at_call 125;refine (place_at key P pk hk0 hk1 HPB.out.1 HPB.out.2 HPK.out _).mono ?_;rintro e wq ⟨rfl,rfl⟩)
      | (go_simp;go_at_call 37;refine (HT1.out _ (by repeat (first | exact Below.refl _ _ | apply below_drew1 | apply below_alloc)) w2.heap.size _ (by exact heap_alloc_new w2 _) (Nat.le_refl _)).mono ?_;rintro e w3 ⟨⟨sl,rfl,htb,hkp⟩,hbo⟩;obtain⟨A3,c3,rfl,_⟩:=ow_slice htb.p.1;obtain⟨o0,o1,g0,g1⟩:=pg_cells hbo)
      | (go_simp;go_at_call 37;refine (HT0.out _ (by repeat (first | exact Below.refl _ _ | apply below_drew1 | apply below_alloc))).mono ?_;rintro e w3 ⟨sl,rfl,htb,hkp⟩;obtain⟨A3,c3,rfl,_⟩:=ow_slice htb.p.1))
    all_goals
      first
        | (rw[show (w3.setCell ⟨w2.heap.size,0,none⟩ (.int .i64 l0)).setCell ⟨w2.heap.size,1,none⟩ (.slice A3 es.length c3)=pgPut w3 w2.heap.size l0 (.slice A3 es.length c3) from rfl]
           have HH1:=Aside0.mk (pgPut_heap hbo l0 (.slice A3 es.length c3))
           have HH2:=Aside0.mk (TB.pg htb hbo (HNG _ _ (by show _<(w2.heap.push _).size;rw[Array.size_push];omega)) (by omega) (by omega) (by omega) (by omega) l0 (.slice A3 es.length c3))
           have HH3:=Aside0.mk (show w.heap.size+2≤w2.heap.size by omega)
           clear o0 o1 g0 g1 hbo htb hkp
           generalize pgPut w3 w2.heap.size l0 (.slice A3 es.length c3)=wd at HH1 HH2 ⊢)
        | (have HH1:=Aside0.mk (heap_alloc_new w3 (.cells #[.int .i64 l0,.slice A3 es.length c3] 74))
           have HH2:=Aside0.mk (htb.below (below_alloc (Below.refl _ _) (.cells #[.int .i64 l0,.slice A3 es.length c3] 74)))
           have HH3:=Aside0.mk (show w.heap.size+2≤w3.heap.size by have:=htb.k.size;have:=hkp.size;simp at this;omega)
           clear htb hkp
           generalize w3.alloc (.cells #[.int .i64 l0,.slice A3 es.length c3] 74)=wd at HH1 HH2 ⊢)
      go_wp2_with fail
      go_meet
      exact⟨rfl,_,_,_,rfl,HH1,HH2,HH3⟩
  case rest=>
    obtain⟨rfl,b,sl,R,rfl,HPG,HTB,HBN⟩:=hcut
    obtain⟨A3,c3,rfl,_⟩:=ow_slice HTB.out.p.1
    rw[HBX.out]
    obtain⟨_,_,g0,g1⟩:=pg_cells HPG.out
    obtain⟨x0,x1,x2,x3,_,_,_,_⟩:=tx_cells HTB.out.bx
    obtain⟨_,_,_,_,r0,r1,r2,r3⟩:=tx_cells HTB.out.b0
    obtain⟨f0,f1,_,_⟩:=pg_cells HTB.out.b1
    have hlt0:=heap_lt HTB.out.b0
    have hlt1:=heap_lt HTB.out.b1
    have n1:b≠w.heap.size:=by have:=HBN.out;omega
    have n2:b≠w.heap.size+1:=by have:=HBN.out;omega
    have n3:bx≠w.heap.size:=by omega
    have n4:bx≠w.heap.size+1:=by omega
    clear k0 k5 hg1 he hs1 hspW hsW1 hsW2 hsp2 hnc
    go_upto_region 13 with fail
    go_cut [12] (fun v12 wx=>v12 = .nilIface∧Aside0 (TE M sp lp pp dp qp mp blocks frames (takesF F n key 2 hint) es w ⟨xi,xs,xl,xn⟩ l0 (.slice A3 es.length c3) wx))
    case first=>
      go_region_law (fail)
      all_goals
        rw[show (((((wc.setCell ⟨w.heap.size,0,none⟩ (.int .i64 xi)).setCell ⟨w.heap.size,1,none⟩ (.int .i64 xs)).setCell ⟨w.heap.size,2,none⟩ (.int .i64 xl)).setCell ⟨w.heap.size,3,none⟩ (.int .i64 xn)).setCell ⟨w.heap.size+1,0,none⟩ (.int .i64 l0)).setCell ⟨w.heap.size+1,1,none⟩ (.slice A3 es.length c3)=pgPut (txPut wc w.heap.size ⟨xi,xs,xl,xn⟩) (w.heap.size+1) l0 (.slice A3 es.length c3) from rfl]
        have HTE:=Aside0.mk (TB.fin1 HTB.out ⟨xi,xs,xl,xn⟩ l0)
        generalize pgPut (txPut wc w.heap.size ⟨xi,xs,xl,xn⟩) (w.heap.size+1) l0 (.slice A3 es.length c3)=wd at HTE ⊢
        go_wp2_with fail
        go_meet
        exact⟨rfl,⟨TE.below HTE.out (by repeat (first | exact Below.refl _ _ | apply below_drew1))⟩⟩
    case rest=>
      obtain⟨rfl,HTE⟩:=hcut
      clear g0 g1 x0 x1 x2 x3 r0 r1 r2 r3 f0 f1 hlt0 hlt1
      obtain⟨x0,x1,x2,x3,_,_,_,_⟩:=tx_cells HTE.out.b0
      obtain⟨_,_,g0,g1⟩:=pg_cells HTE.out.b1
      go_wp2_with fail
      refine bodyPost_ret (v:=.tuple #[.agg #[.int .i64 xi,.int .i64 xs,.int .i64 xl,.int .i64 xn],.agg #[.int .i64 l0,.slice A3 es.length c3],.nilIface]) ?_ ?_ ?_
      case refine_2=>rfl
      case refine_3=>exact⟨.slice A3 es.length c3,by rw[HXX.out,HLE.out.1];rfl,by rw[HLE.out.2];exact HTE.out.p,HTE.out.f⟩
      simp[results,Tryz.results69,go_sem,x0,x1,x2,x3,g0,g1]
end Go.Proofs.YtaplpeoikebedaaGreatDoor.FwdT
