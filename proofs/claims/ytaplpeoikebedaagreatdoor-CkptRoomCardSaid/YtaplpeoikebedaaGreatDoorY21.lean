/- Joined texts: StoreG. No condition but what each says. -/
import Derived.Test.YtaplpeoikebedaaGreatDoorY20
set_option maxHeartbeats 8000000
set_option maxRecDepth 100000
set_option linter.unusedVariables false
set_option linter.unusedSimpArgs false
namespace Go.Proofs.YtaplpeoikebedaaGreatDoor.StoreG
open Go.RowKit See Mem Clone Go.Proofs.YtaplpeoikebedaaGreatDoor.Cell Page PageB PageR PageL Disk DiskN DiskW RecD Dirty Dirty2 SysD SysM Wal WalF GoodD PoolG PoolS FlushG Fresh DirtD PoolA TabL SortI AheadD Pager StoreD PageM StoreF
def chgS (S:PSys)(r:RecV):PSys:=(setS (addRec S r) r.page (S.l.last+1) (redoE (cur S r.page).2 r)).1
theorem chg_ok {N m:Nat}{F:FS}{r:RecV}{f:Fp}{fr kp:Int}(h:GOk N m F)(hf:findP F.S.here r.page=some f)(hr:recOk r=true)(h6:is64 r.old∧is64 r.new)(hk:0≤r.key∧r.key<1048576)(hm:1≤F.S.l.room)(hl:(redoE (cur F.S r.page).2 r).length≤20)
    (h1:0≤fr) (h2:0≤kp) (h3:fr+kp=F.S.l.room - 1) :
    setS (addRec F.S r) r.page (F.S.l.last+1) (redoE (cur F.S r.page).2 r)=(chgS F.S r,none)∧GOk N m { F with S:=chgS F.S r,free:=fr,kept:=kp }∧(chgS F.S r).l=(addRec F.S r).l∧(∀k,cur (chgS F.S r) k=if k=r.page then (F.S.l.last+1,redoE (cur F.S r.page).2 r) else cur F.S k)∧(chgS F.S r).d=F.S.d:=by
  have hg:=h.rec_ hr h6 hm h1 h2 h3
  obtain⟨m1,m2⟩:=find_some hf
  obtain⟨p1,p2,_⟩:=h.pg.here f m1
  rw[m2] at p1 p2
  have hpv:=h.pg.curV p1 p2
  have hl0:0≤F.S.l.last:=by have:=h.lok.base;unfold Lg.last;omega
  have hl1:F.S.l.last+1≤1073741824:=by unfold Lg.room at hm;omega
  have hnv:=redo_page (r:=r) hpv (show 1≤F.S.l.last+1 by omega) hl1 hk h6.2 hl
  obtain⟨S',q1,q2,q3,q4,q5,q6,q7,q8⟩:=pg_set (S:=addRec F.S r) (n:=r.page) (lsn:=F.S.l.last+1) (es:=redoE (cur F.S r.page).2 r) hg.pg hf hnv (by omega) (by rw[addRec_last];exact Int.le_refl _)
  have e:chgS F.S r=S':=by unfold chgS;rw[q1]
  rw[e]
  refine⟨q1,⟨q2,?_,?_,?_,?_,fun p a b => ?_,?_,h.p32,h1,h2,?_⟩,q4,fun k => ?_,by rw[q5];rfl⟩
  · show S'.l.first+S'.l.blocks≤N
    rw[q4];exact h.fit
  · show S'.l.Ok
    rw[q4];exact hg.lok
  · show FuseOk S'.d
    rw[q5];exact h.fuse
  · show LooseLe S'.d m
    rw[q5];exact h.loose
  · show (cur S' p).1≤S'.l.last
    rw[q3,q4,addRec_last]
    split
    · exact Int.le_refl _
    · have:=h.lsn p a b
      show (cur F.S p).1≤_
      omega
  · show ∀q∈S'.l.l,_
    rw[q4];exact hg.six
  · show fr+kp=S'.l.room
    rw[q4];exact hg.room.2.2
  · rw[q3];rfl
theorem vals_chg {F F':FS}{r:RecV}(hP:F'.P=F.P)(hp:r.page=placeOf r.key F.P)(hr:Rising (cur F.S r.page).2)(hc : ∀k,cur F'.S k=if k=r.page then (F.S.l.last+1,redoE (cur F.S r.page).2 r) else cur F.S k)(k:Int):vals F' k=if k=r.key then (if r.has then some r.new else none) else vals F k:=by
  unfold vals
  rw[hP,hc]
  by_cases e:placeOf k F.P=r.page
  · rw[if_pos e]
    simp only
    rw[val_redo hr,e]
  · rw[if_neg e,if_neg]
    intro e2
    exact e (by rw[e2,hp])
def recSet (x:Tx)(P key:Int)(had:Bool)(old:Int)(has:Bool)(new:Int):RecV:=⟨2,x.id,placeOf key P,x.last,0,key,had,has,old,new⟩
def setF (F:FS)(id key:Int)(had:Bool)(old:Int)(has:Bool)(new:Int):FS:=
  { F with S:=chgS F.S (recSet (tget F.ts id) F.P key had old has new),ts:=tnote F.ts id (F.S.l.last+1) (F.S.l.last+1),free:=F.free - 2,kept:=F.kept+1 }
theorem recSet_ok {x:Tx}{P key:Int}{had has:Bool}{old new:Int}(h1:1≤x.id∧x.id≤60000)(hP:1≤P∧P≤32)(hl:0≤x.last∧x.last≤1073741824)(hk:0≤key∧key<1048576)(h2:had=false→old=0)(h3:has=false→new=0)(h4:had=true∨has=true):recOk (recSet x P key had old has new)=true:=by
  obtain⟨p1,p2⟩:=placeOf_in key hP.1
  unfold recOk recSet inB txnMax pageMax prevOk nextOk rkeyOk valsOk inB
  cases had<;>cases has<;>simp at h2 h3 h4 ⊢<;>omega
theorem sum_note {ch:Int→List Int}{kp:Int→Int}{ts:List Tx}{id l n:Int}{ks:List Int}(hr:Rising (kvT ts))(h:thas ts id=true) :
    ((tnote ts id l n).map fun x=>kp x.id+((updc ch id ks x.id).length:Int)).sum=(ts.map fun x=>kp x.id+((ch x.id).length:Int)).sum+ks.length - (ch id).length:=by
  obtain⟨t,h1,h2,h3⟩:=thas_at h
  unfold tnote
  rw[if_pos h]
  have key : ∀(k:Nat) (ts:List Tx),ts[k]? = some t→(∀j u,ts[j]? = some u→u.id=id→j=k)→((ts.modify k fun t=>⟨t.id,t.state,l,n⟩).map fun x=>kp x.id+((updc ch id ks x.id).length:Int)).sum=(ts.map fun x=>kp x.id+((ch x.id).length:Int)).sum+ks.length - (ch id).length:=by
    intro k
    induction k with
    | zero=>
      intro ts hk hu
      cases ts with
      | nil=>cases hk
      | cons a aa=>
        simp at hk
        subst hk
        rw[List.modify_zero_cons]
        simp only[List.map_cons,List.sum_cons]
        have:(aa.map fun x=>kp x.id+((updc ch id ks x.id).length:Int)).sum=(aa.map fun x=>kp x.id+((ch x.id).length:Int)).sum:=sum_congr fun x hx=>by
          unfold updc
          rw[if_neg]
          intro e
          obtain⟨j,hj,e2⟩:=List.getElem_of_mem hx
          have:=hu (j+1) x (by simp[List.getElem?_eq_getElem hj,e2]) e
          omega
        rw[this]
        unfold updc
        rw[h2,if_pos rfl]
        omega
    | succ k ih=>
      intro ts hk hu
      cases ts with
      | nil=>cases hk
      | cons a aa=>
        rw[List.modify_succ_cons]
        simp only[List.map_cons,List.sum_cons]
        rw[ih aa (by simpa using hk) (fun j u hj e=>by
          have:=hu (j+1) u (by simpa using hj) e
          omega)]
        have:a.id≠id:=fun e=>by
          have:=hu 0 a rfl e
          omega
        unfold updc
        rw[if_neg this]
        omega
  exact key _ ts h1 (fun j u hj e=>kvT_at hr hj h1 (e.trans h2.symm))
theorem set_ok {N m:Nat}{ch:Int→List Int}{kp:Int→Int}{F:FS}{id key:Int}{had has:Bool}{old new:Int}{f:Fp}(h:FOk N m ch kp F)(hid:thas F.ts id=true)(hf:findP F.S.here (placeOf key F.P)=some f)(hk:0≤key∧key<1048576)(h6:is64 old∧is64 new)(h2:had=false→old=0)(h3:has=false→new=0)(h4:had=true∨has=true)
    (hh : ∃lk∈F.ks,lk.mode=2∧lk.key=key∧F.of lk.s=id) (hfr:2≤F.free)
    (hcap:vals F key=none→has=true→∀l:List Int,l.Nodup→(∀k∈l,k≠key∧placeOf k F.P=placeOf key F.P∧vals F k=none∧∃lk∈F.ks,lk.mode=2∧lk.key=k)→(cur F.S (placeOf key F.P)).2.length+l.length≤19)
    (hdel:has=false→vals F key≠none) :
    setS (addRec F.S (recSet (tget F.ts id) F.P key had old has new)) (placeOf key F.P) (F.S.l.last+1) (redoE (cur F.S (placeOf key F.P)).2 (recSet (tget F.ts id) F.P key had old has new))=((setF F id key had old has new).S,none)∧recOk (recSet (tget F.ts id) F.P key had old has new)=true∧(redoE (cur F.S (placeOf key F.P)).2 (recSet (tget F.ts id) F.P key had old has new)).length≤20 ∧
    FOk N m (updc ch id ((F.S.l.last+1) :: ch id)) kp (setF F id key had old has new)∧∀k,vals (setF F id key had old has new) k=if k=key then (if has then some new else none) else vals F k:=by
  obtain⟨hg,ht,hc⟩:=h
  obtain⟨ro1,ro2,ro3⟩:=hg.room
  have hroom:1≤F.S.l.room:=by omega
  obtain⟨hx,hxid⟩:=tget_mem hid
  obtain⟨x,hxx⟩ : ∃x,tget F.ts id=x:=⟨_,rfl⟩
  rw[hxx] at hx hxid
  obtain⟨i1,i2⟩:=ht.ids x hx
  obtain⟨la,lb,lc⟩:=hc.last x hx
  have hl1:F.S.l.last+1≤1073741824:=by unfold Lg.room at hroom;omega
  have hl0:0≤F.S.l.last:=by have:=hg.lok.base;unfold Lg.last;omega
  have hP:=hg.pg.pages
  obtain⟨p1,p2⟩:=placeOf_in key hP
  have hrise:Rising (cur F.S (placeOf key F.P)).2:=PageV.rise (hg.pg.curV p1 p2)
  obtain⟨r,hr⟩ : ∃r,recSet x F.P key had old has new=r:=⟨_,rfl⟩
  have r1:r.page=placeOf key F.P:=by rw[←hr];rfl
  have r2:r.key=key:=by rw[←hr];rfl
  have r3:r.has=has:=by rw[←hr];rfl
  have r4:r.new=new:=by rw[←hr];rfl
  have r5:r.old=old:=by rw[←hr];rfl
  have r6:r.kind=2:=by rw[←hr];rfl
  have r7:r.prev=x.last:=by rw[←hr];rfl
  have r8:r.txn=id:=by rw[←hr];exact hxid
  have hrok:recOk r=true:=by rw[←hr];exact recSet_ok (by have:=ht.most;omega) ⟨hP,hg.p32⟩ ⟨lc,by omega⟩ hk h2 h3 h4
  have hvk:vals F key=val (cur F.S (placeOf key F.P)).2 key:=rfl
  have hlen:(redoE (cur F.S (placeOf key F.P)).2 r).length≤20:=by
    have h20:=(head_facts (headOk_of (hg.pg.curV p1 p2).1)).2.2
    unfold redoE
    rw[r2,r3,r4]
    split
    · rename_i hh2
      rw[len_put hrise]
      split
      · exact h20
      · rename_i hn
        have:=hcap (by rw[hvk];simpa using hn) hh2 [] List.nodup_nil (fun k hk=>by cases hk)
        simp at this
        omega
    · rw[len_drop hrise]
      split<;>omega
  have hfr2:findP F.S.here r.page=some f:=by rw[r1];exact hf
  obtain⟨c1,c2,c3,c4,c5⟩:=chg_ok (fr:=F.free - 2) (kp:=F.kept+1) hg hfr2 hrok ⟨by rw[r5];exact h6.1,by rw[r4];exact h6.2⟩ (by rw[r2];exact hk) hroom (by rw[r1];exact hlen) (by omega) (by omega) (by omega)
  have hset:setF F id key had old has new={ F with S:=chgS F.S r,ts:=tnote F.ts id (F.S.l.last+1) (F.S.l.last+1),free:=F.free - 2,kept:=F.kept+1 }:=by
    unfold setF
    rw[hxx,hr]
  rw[hset,hxx,hr]
  have hvals : ∀k,vals { F with S:=chgS F.S r,ts:=tnote F.ts id (F.S.l.last+1) (F.S.l.last+1),free:=F.free - 2,kept:=F.kept+1 } k=if k=key then (if has then some new else none) else vals F k:=fun k=>by
    have:=vals_chg (F:=F) (F':={ F with S:=chgS F.S r,ts:=tnote F.ts id (F.S.l.last+1) (F.S.l.last+1),free:=F.free - 2,kept:=F.kept+1 }) (r:=r) rfl (by rw[r1,r2]) (by rw[r1];exact hrise) c4 k
    rw[this,r2,r3,r4]
  have hold : ∀n q,recOf F.S.l n=some q→recOf (chgS F.S r).l n=some q:=fun n q hq=>by rw[c3];exact addRec_rec hq
  have hnew:recOf (chgS F.S r).l (F.S.l.last+1)=some r:=by rw[c3];exact addRec_new F.S r
  have hlast:(chgS F.S r).l.last=F.S.l.last+1:=by rw[c3];exact addRec_last F.S r
  refine⟨by rw[r1] at c1;exact c1,hrok,hlen,⟨⟨c2.pg,c2.fit,c2.lok,c2.fuse,c2.loose,c2.lsn,c2.six,c2.p32,c2.room⟩,⟨tnote_rise ht.rise,fun y hy => ?_,ht.most,fun s hs => ?_,ht.inj,fun y hy => ?_⟩,⟨fun y hy => ?_,fun y hy => ?_,fun y hy k hk2 q hq => ?_,?_,fun p a b l hn hl => ?_⟩⟩,hvals⟩
  · rcases mem_tnote ht.rise hid hy with rfl | ⟨hy,_⟩
    · exact⟨by rw[←hxid];exact i1,by rw[←hxid];exact i2⟩
    · exact ht.ids y hy
  · obtain⟨a,b,c⟩:=ht.ofs s hs
    refine⟨a,b,?_⟩
    show thas (tnote F.ts id _ _) (F.of s)=true
    obtain⟨t,ht2,e⟩:=(thas_iff ht.rise _).1 c
    rw[thas_iff (tnote_rise ht.rise)]
    by_cases e2:t.id=id
    · refine⟨⟨id,x.state,F.S.l.last+1,F.S.l.last+1⟩,?_,by rw[←e,e2]⟩
      obtain⟨u,u1,u2,u3⟩:=thas_at hid
      unfold tnote
      rw[if_pos hid,List.mem_iff_getElem?]
      refine⟨tpos F.ts id,?_⟩
      rw[List.getElem?_modify,u1]
      simp[u2,←u3,hxx,hxid]
    · refine⟨t,?_,e⟩
      obtain⟨u,u1,u2,u3⟩:=thas_at hid
      obtain⟨j,hj,e3⟩:=List.getElem_of_mem ht2
      unfold tnote
      rw[if_pos hid,List.mem_iff_getElem?]
      refine⟨j,?_⟩
      rw[List.getElem?_modify,List.getElem?_eq_getElem hj,e3]
      have : ¬tpos F.ts id=j:=fun e4=>by
        rw[e4,List.getElem?_eq_getElem hj,e3] at u1
        cases u1
        exact e2 u2
      simp[this]
  · rcases mem_tnote ht.rise hid hy with rfl | ⟨hy,_⟩
    · obtain⟨s,hs⟩:=ht.on x hx
      exact⟨s,by show F.of s=id;rw[hs,hxid]⟩
    · exact ht.on y hy
  · show Chain (chgS F.S r).l y.last (updc ch id ((F.S.l.last+1) :: ch id) y.id)∧y.last≤(chgS F.S r).l.last∧0≤y.last
    rw[hlast]
    rcases mem_tnote ht.rise hid hy with rfl | ⟨hy,hne⟩
    · unfold updc
      rw[if_pos rfl]
      rw[hxid] at la
      exact⟨.cons (.set (by show F.S.l.last+1≠0;omega) hnew r6) (by omega) hnew (by rw[r7];omega) (by rw[r7];exact la.keep hold),Int.le_refl _,by show 0≤F.S.l.last+1;omega⟩
    · obtain⟨a,b,c⟩:=hc.last y hy
      unfold updc
      rw[if_neg hne]
      exact⟨a.keep hold,by omega,c⟩
  · show y.next=(updc ch id ((F.S.l.last+1) :: ch id) y.id).headD 0
    rcases mem_tnote ht.rise hid hy with rfl | ⟨hy,hne⟩
    · unfold updc
      rw[if_pos rfl]
      rfl
    · unfold updc
      rw[if_neg hne]
      exact hc.next y hy
  · have hk3:k∈updc ch id ((F.S.l.last+1) :: ch id) y.id:=hk2
    have hq':recOf (chgS F.S r).l k=some q:=hq
    have old_ : ∀y∈F.ts,k∈ch y.id→SOk F y.id q:=fun y hy hky=>by
      obtain⟨_,q2,hq2,_⟩:=(hc.last y hy).1.at_ k hky
      rw[hold _ _ hq2] at hq'
      cases hq'
      exact hc.sets y hy k hky q hq2
    rcases mem_tnote ht.rise hid hy with rfl | ⟨hy,hne⟩
    · unfold updc at hk3
      rw[if_pos rfl] at hk3
      rcases List.mem_cons.1 hk3 with rfl | hk3
      · rw[hnew] at hq'
        cases hq'
        exact⟨r8,by rw[r1,r2],by rw[r2];exact hh⟩
      · have:=old_ x hx (by rw[hxid];exact hk3)
        rw[hxid] at this
        exact⟨this.txn,this.page,this.held⟩
    · unfold updc at hk3
      rw[if_neg hne] at hk3
      have:=old_ y hy hk3
      exact⟨this.txn,this.page,this.held⟩
  · show F.kept+1=((tnote F.ts id _ _).map _).sum
    rw[sum_note ht.rise hid,hc.kept,List.length_cons]
    omega
  · show (cur (chgS F.S r) p).2.length+l.length≤20
    have hl' : ∀k∈l,placeOf k F.P=p∧(if k=key then (if has then some new else none) else vals F k)=none∧(k=key∨∃y∈F.ts,∃n∈ch y.id,∃q,recOf F.S.l n=some q∧q.key=k):=fun k hk2=>by
      obtain⟨a1,a2,y,hy,n,hn2,q,hq,e⟩:=hl k hk2
      refine⟨a1,by rw[←hvals];exact a2,?_⟩
      have hn3:n∈updc ch id ((F.S.l.last+1) :: ch id) y.id:=hn2
      have hq':recOf (chgS F.S r).l n=some q:=hq
      have old_ : ∀y∈F.ts,n∈ch y.id→∃y∈F.ts,∃n∈ch y.id,∃q,recOf F.S.l n=some q∧q.key=k:=fun y hy hny=>by
        obtain⟨_,q2,hq2,_⟩:=(hc.last y hy).1.at_ n hny
        rw[hold _ _ hq2] at hq'
        cases hq'
        exact⟨y,hy,n,hny,q,hq2,e⟩
      rcases mem_tnote ht.rise hid hy with rfl | ⟨hy,hne⟩
      · unfold updc at hn3
        rw[if_pos rfl] at hn3
        rcases List.mem_cons.1 hn3 with rfl | hn3
        · rw[hnew] at hq'
          cases hq'
          exact .inl (by rw[←e,r2])
        · exact .inr (old_ x hx (by rw[hxid];exact hn3))
      · unfold updc at hn3
        rw[if_neg hne] at hn3
        exact .inr (old_ y hy hn3)
    rw[c4]
    by_cases hp:p=r.page
    · rw[if_pos hp]
      simp only
      rw[r1] at hp ⊢
      subst hp
      cases hhas:has with
      | true=>
        have hnk : ∀k∈l,k≠key:=fun k hk2 e=>by
          have:=(hl' k hk2).2.1
          rw[if_pos e,hhas] at this
          cases this
        have hl2 : ∀k∈l,placeOf k F.P=placeOf key F.P∧vals F k=none∧∃y∈F.ts,∃n∈ch y.id,∃q,recOf F.S.l n=some q∧q.key=k:=fun k hk2=>by
          obtain⟨a1,a2,a3⟩:=hl' k hk2
          rw[if_neg (hnk k hk2)] at a2
          exact⟨a1,a2,a3.resolve_left (hnk k hk2)⟩
        unfold redoE
        rw[r3,hhas,if_pos rfl,r2,len_put hrise]
        split
        · exact hc.cap _ p1 p2 l hn hl2
        · rename_i hnone
          have:=hcap (by rw[hvk];simpa using hnone) hhas l hn (fun k hk2=>by
            obtain⟨a1,a2,y,hy,n,hn2,q,hq,e⟩:=hl2 k hk2
            obtain⟨_,_,lk,b1,b2,b3,_⟩:=hc.sets y hy n hn2 q hq
            exact⟨hnk k hk2,a1,a2,lk,b1,b2,by rw[b3,e]⟩)
          omega
      | false=>
        have hsome:=hdel hhas
        unfold redoE
        rw[r3,hhas,if_neg (by decide),r2,len_drop hrise,if_pos (by rw[←hvk];exact Option.isSome_iff_ne_none.2 hsome)]
        have hes:0<(cur F.S (placeOf key F.P)).2.length:=by
          rw[hvk] at hsome
          obtain⟨v,hv⟩:=Option.ne_none_iff_exists'.1 hsome
          exact List.length_pos_of_mem ((val_some hrise _ _).1 hv)
        have hcp:=hc.cap _ p1 p2 (l.filter fun k=>k != key) (hn.sublist List.filter_sublist) (fun k hk2=>by
          obtain⟨hk3,hk4⟩:=List.mem_filter.1 hk2
          have hne:k≠key:=by simpa using hk4
          obtain⟨a1,a2,a3⟩:=hl' k hk3
          rw[if_neg hne] at a2
          exact⟨a1,a2,a3.resolve_left hne⟩)
        have hfl:l.length≤(l.filter fun k=>k != key).length+1:=by
          clear hl hl' hcp
          induction l with
          | nil=>simp
          | cons a aa ih=>
            rw[List.nodup_cons] at hn
            by_cases e:a=key
            · have:aa.filter (fun k=>k != key)=aa:=List.filter_eq_self.2 fun k hk2=>by
                simp
                intro e2
                exact hn.1 (by rw[e,←e2];exact hk2)
              simp[e,this]
            · have:=ih hn.2
              simp[e]
              omega
        omega
    · rw[if_neg hp]
      refine hc.cap p a b l hn fun k hk2 => ?_
      obtain⟨a1,a2,a3⟩:=hl' k hk2
      have hne:k≠key:=fun e=>hp (by rw[r1,←a1,e])
      rw[if_neg hne] at a2
      exact⟨a1,a2,a3.resolve_left hne⟩
end Go.Proofs.YtaplpeoikebedaaGreatDoor.StoreG
