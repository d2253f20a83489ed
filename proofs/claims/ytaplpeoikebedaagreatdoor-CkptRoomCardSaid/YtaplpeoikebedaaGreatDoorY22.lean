/- Joined texts: StoreH. No condition but what each says. -/
import Derived.Test.YtaplpeoikebedaaGreatDoorY21
set_option maxHeartbeats 8000000
set_option maxRecDepth 100000
set_option linter.unusedVariables false
set_option linter.unusedSimpArgs false
namespace Go.Proofs.YtaplpeoikebedaaGreatDoor.StoreH
open Go.RowKit See Mem Clone Go.Proofs.YtaplpeoikebedaaGreatDoor.Cell Page PageB PageR PageL Disk DiskN DiskW RecD Dirty Dirty2 SysD SysM Wal WalF GoodD PoolG PoolS FlushG Fresh DirtD PoolA TabL SortI AheadD Pager StoreD PageM StoreF StoreG
def idsT (ts:List Tx):List Int:=ts.map (·.id)
theorem ids_modify (ts:List Tx)(k:Nat)(f:Tx→Tx)(hf : ∀t,(f t).id=t.id):idsT (ts.modify k f)=idsT ts:=by
  unfold idsT
  apply List.ext_getElem?
  intro i
  rw[List.getElem?_map,List.getElem?_map,List.getElem?_modify]
  cases ts[i]? with
  | none=>rfl
  | some t=>by_cases h:k=i<;>simp[h,hf]
theorem ids_tnote (ts:List Tx)(id l n:Int):idsT (tnote ts id l n)=idsT ts:=by
  unfold tnote
  split
  · exact ids_modify _ _ _ (fun _=>rfl)
  · rfl
theorem ids_tstate (ts:List Tx)(id s:Int):idsT (tstate ts id s)=idsT ts:=by
  unfold tstate
  split
  · exact ids_modify _ _ _ (fun _=>rfl)
  · rfl
theorem thas_ids {ts:List Tx}(h:Rising (kvT ts))(id:Int):thas ts id=true↔id∈idsT ts:=by
  rw[thas_iff h]
  unfold idsT
  rw[List.mem_map]
theorem TOk.turn {F F':FS}(h:TOk F)(hr:Rising (kvT F'.ts))(hm:F'.most=F.most)(ho:F'.of=F.of)(hs:F'.sess=F.sess)(hi:idsT F'.ts=idsT F.ts):TOk F':=by
  have mem : ∀x∈F'.ts,∃y∈F.ts,y.id=x.id:=fun x hx=>by
    have:x.id∈idsT F.ts:=by rw[←hi];exact List.mem_map.2 ⟨x,hx,rfl⟩
    obtain⟨y,hy,e⟩:=List.mem_map.1 this
    exact⟨y,hy,e⟩
  refine⟨hr,fun x hx => ?_,by rw[hm];exact h.most,fun s hs2 => ?_,by rw[ho];exact h.inj,fun x hx => ?_⟩
  · obtain⟨y,hy,e⟩:=mem x hx
    rw[←e,hm];exact h.ids y hy
  · rw[ho] at hs2 ⊢
    rw[hs]
    obtain⟨a,b,c⟩:=h.ofs s hs2
    exact⟨a,b,by rw[thas_ids hr,hi,←thas_ids h.rise];exact c⟩
  · obtain⟨y,hy,e⟩:=mem x hx
    rw[←e,ho];exact h.on y hy
def recClr (x:Tx)(r:RecV)(k nx:Int):RecV:=⟨3,r.txn,r.page,x.last,nx,r.key,true,r.had,k,r.old⟩
def undoF (F:FS)(id k nx:Int)(r:RecV):FS:=
  { F with S:=chgS F.S (recClr (tget F.ts id) r k nx),ts:=tnote F.ts id (F.S.l.last+1) nx,kept:=F.kept - 1 }
theorem recClr_ok {x:Tx}{r:RecV}{k nx:Int}(hr:recOk r=true)(h2:r.kind=2)(hl:0≤x.last∧x.last≤1073741824)(hk:1≤k∧k≤1073741824)(hn:0≤nx∧nx≤1073741824):recOk (recClr x r k nx)=true:=by
  obtain⟨kd,tx,pg,pv,nxt,key,had,has,old,new⟩:=r
  simp only at h2
  subst h2
  unfold recOk recClr inB txnMax pageMax prevOk nextOk rkeyOk valsOk inB at *
  cases had<;>cases has<;>simp at hr ⊢<;>omega
theorem rec_key {r:RecV}(hr:recOk r=true)(h2:r.kind=2):0≤r.key∧r.key<1048576:=by
  obtain⟨kd,tx,pg,pv,nxt,key,had,has,old,new⟩:=r
  simp only at h2
  subst h2
  unfold recOk inB txnMax pageMax prevOk nextOk rkeyOk valsOk inB at hr
  cases had<;>cases has<;>simp at hr ⊢<;>omega
theorem undo_ok {N m:Nat}{ch:Int→List Int}{kp:Int→Int}{F:FS}{id k:Int}{ks:List Int}{r:RecV}{f:Fp}(h:FOk N m ch kp F)(hid:thas F.ts id=true)(hch:ch id=k :: ks)(hrk:recOf F.S.l k=some r)(hf:findP F.S.here r.page=some f)(hkp : ∀x,0≤kp x) :
    setS (addRec F.S (recClr (tget F.ts id) r k (ks.headD 0))) r.page (F.S.l.last+1) (redoE (cur F.S r.page).2 (recClr (tget F.ts id) r k (ks.headD 0)))=((undoF F id k (ks.headD 0) r).S,none)∧recOk (recClr (tget F.ts id) r k (ks.headD 0))=true∧(redoE (cur F.S r.page).2 (recClr (tget F.ts id) r k (ks.headD 0))).length≤20∧1≤F.S.l.room∧1≤F.kept ∧
    FOk N m (updc ch id ks) kp (undoF F id k (ks.headD 0) r)∧∀j,vals (undoF F id k (ks.headD 0) r) j=if j=r.key then (if r.had then some r.old else none) else vals F j:=by
  obtain⟨hg,ht,hc⟩:=h
  obtain⟨ro1,ro2,ro3⟩:=hg.room
  obtain⟨hx,hxid⟩:=tget_mem hid
  obtain⟨x,hxx⟩ : ∃x,tget F.ts id=x:=⟨_,rfl⟩
  rw[hxx] at hx hxid
  have hkept:1≤F.kept:=by
    rw[hc.kept]
    have key : ∀ts:List Tx,x∈ts→1≤(ts.map fun x=>kp x.id+((ch x.id).length:Int)).sum:=by
      intro ts
      induction ts with
      | nil=>intro h;cases h
      | cons a aa ih=>
        intro hm
        rw[List.map_cons,List.sum_cons]
        have h1:=hkp a.id
        rcases List.mem_cons.1 hm with rfl | hm
        · have:0≤(aa.map fun x=>kp x.id+((ch x.id).length:Int)).sum:=by
            clear ih hm
            induction aa with
            | nil=>simp
            | cons b bs ih=>
              rw[List.map_cons,List.sum_cons]
              have:=hkp b.id
              omega
          rw[hxid,hch,List.length_cons]
          rw[hxid] at h1
          omega
        · have:=ih hm
          omega
    exact key _ hx
  have hroom:1≤F.S.l.room:=by omega
  obtain⟨la,lb,lc⟩:=hc.last x hx
  rw[hxid,hch] at la
  have hkn:=la.at_ k List.mem_cons_self
  have hrk2:r.kind=2:=by
    obtain⟨_,q,hq,hq2⟩:=hkn
    rw[hrk] at hq
    cases hq
    exact hq2
  obtain⟨kb1,kb2⟩:=recOf_lt hrk
  have hb0:=hg.lok.base
  have hl1:F.S.l.last+1≤1073741824:=by unfold Lg.room at hroom;omega
  have hl0:0≤F.S.l.last:=by unfold Lg.last;omega
  have hP:=hg.pg.pages
  obtain⟨st,sp,sh⟩:=hc.sets x hx k (by rw[hxid,hch];exact List.mem_cons_self) r hrk
  have hrok:=hg.lok.recs r (recOf_mem hrk)
  have hrkey:=rec_key hrok hrk2
  obtain⟨p1,p2⟩:=placeOf_in r.key hP
  rw[←sp] at p1 p2
  have hrise:Rising (cur F.S r.page).2:=PageV.rise (hg.pg.curV p1 p2)
  have hrest:Chain F.S.l r.prev ks∧r.prev<k:=by
    cases la with
    | cons h0 h1 h2 h3 h4=>
      rw[hrk] at h2
      cases h2
      exact⟨h4,h3⟩
  have hnx:0≤ks.headD 0∧ks.headD 0≤F.S.l.last∧Norm F.S.l (ks.headD 0) (ks.headD 0):=by
    have hn:=hrest.1.norm
    refine⟨?_,?_,hn.head⟩
    · by_cases e:ks.headD 0=0
      · omega
      · obtain⟨q,hq,_⟩:=hn.at_ e
        have:=recOf_lt hq
        omega
    · by_cases e:ks.headD 0=0
      · omega
      · obtain⟨q,hq,_⟩:=hn.at_ e
        exact (recOf_lt hq).2
  obtain⟨nx,hnxx⟩ : ∃nx,ks.headD 0=nx:=⟨_,rfl⟩
  rw[hnxx] at hnx ⊢
  obtain⟨c,hcc⟩ : ∃c,recClr x r k nx=c:=⟨_,rfl⟩
  have r1:c.page=r.page:=by rw[←hcc];rfl
  have r2:c.key=r.key:=by rw[←hcc];rfl
  have r3:c.has=r.had:=by rw[←hcc];rfl
  have r4:c.new=r.old:=by rw[←hcc];rfl
  have r5:c.old=k:=by rw[←hcc];rfl
  have r6:c.kind=3:=by rw[←hcc];rfl
  have r7:c.next=nx:=by rw[←hcc];rfl
  have hcok:recOk c=true:=by rw[←hcc];exact recClr_ok hrok hrk2 ⟨lc,by omega⟩ ⟨by omega,by omega⟩ ⟨hnx.1,by omega⟩
  have hvk:vals F r.key=val (cur F.S r.page).2 r.key:=by unfold vals;rw[←sp]
  have hin : ∃y∈F.ts,∃n∈ch y.id,∃q,recOf F.S.l n=some q∧q.key=r.key:=⟨x,hx,k,by rw[hxid,hch];exact List.mem_cons_self,r,hrk,rfl⟩
  have h20:=(head_facts (headOk_of (hg.pg.curV p1 p2).1)).2.2
  have hlen:(redoE (cur F.S r.page).2 c).length≤20:=by
    unfold redoE
    rw[r2,r3,r4]
    split
    · rw[len_put hrise]
      split
      · exact h20
      · rename_i hn
        have:=hc.cap r.page p1 p2 [r.key] (by simp) (fun j hj=>by
          rw[List.mem_singleton] at hj
          subst hj
          exact⟨sp.symm,by rw[hvk];simpa using hn,hin⟩)
        simpa using this
    · rw[len_drop hrise]
      split<;>omega
  have h6:=hg.six r (recOf_mem hrk)
  obtain⟨c1,c2,c3,c4,c5⟩:=chg_ok (r:=c) (fr:=F.free) (kp:=F.kept - 1) hg (by rw[r1];exact hf) hcok ⟨by rw[r5];unfold is64;omega,by rw[r4];exact h6.1⟩ (by rw[r2];exact hrkey) hroom (by rw[r1];exact hlen) (by omega) (by omega) (by omega)
  have hset:undoF F id k nx r={ F with S:=chgS F.S c,ts:=tnote F.ts id (F.S.l.last+1) nx,kept:=F.kept - 1 }:=by
    unfold undoF
    rw[hxx,hcc]
  rw[hset,hxx,hcc]
  have hvals : ∀j,vals { F with S:=chgS F.S c,ts:=tnote F.ts id (F.S.l.last+1) nx,kept:=F.kept - 1 } j=if j=r.key then (if r.had then some r.old else none) else vals F j:=fun j=>by
    have:=vals_chg (F:=F) (F':={ F with S:=chgS F.S c,ts:=tnote F.ts id (F.S.l.last+1) nx,kept:=F.kept - 1 }) (r:=c) rfl (by rw[r1,r2];exact sp) (by rw[r1];exact hrise) c4 j
    rw[this,r2,r3,r4]
  have hold : ∀n q,recOf F.S.l n=some q→recOf (chgS F.S c).l n=some q:=fun n q hq=>by rw[c3];exact addRec_rec hq
  have hnew:recOf (chgS F.S c).l (F.S.l.last+1)=some c:=by rw[c3];exact addRec_new F.S c
  have hlast:(chgS F.S c).l.last=F.S.l.last+1:=by rw[c3];exact addRec_last F.S c
  have old_ : ∀y∈F.ts,∀n∈ch y.id,∀q,recOf (chgS F.S c).l n=some q→recOf F.S.l n=some q:=fun y hy n hn q hq=>by
    obtain⟨_,q2,hq2,_⟩:=(hc.last y hy).1.at_ n hn
    rw[hold _ _ hq2] at hq
    cases hq
    exact hq2
  refine⟨by rw[r1] at c1;exact c1,hcok,hlen,hroom,hkept,⟨⟨c2.pg,c2.fit,c2.lok,c2.fuse,c2.loose,c2.lsn,c2.six,c2.p32,c2.room⟩,TOk.turn ht (tnote_rise ht.rise) rfl rfl rfl (ids_tnote _ _ _ _),⟨fun y hy => ?_,fun y hy => ?_,fun y hy j hj q hq => ?_,?_,fun p a b l hn hl => ?_⟩⟩,hvals⟩
  · show Chain (chgS F.S c).l y.last (updc ch id ks y.id)∧y.last≤(chgS F.S c).l.last∧0≤y.last
    rw[hlast]
    rcases mem_tnote ht.rise hid hy with rfl | ⟨hy,hne⟩
    · unfold updc
      rw[if_pos rfl]
      refine⟨(hrest.1.keep hold).of_norm ?_,Int.le_refl _,by show 0≤F.S.l.last+1;omega⟩
      rw[hnxx]
      exact .clr (by show F.S.l.last+1≠0;omega) hnew r6 (by rw[r7];show nx<F.S.l.last+1;omega) (by rw[r7];exact hnx.2.2.keep hold)
    · obtain⟨a,b,d⟩:=hc.last y hy
      unfold updc
      rw[if_neg hne]
      exact⟨a.keep hold,by omega,d⟩
  · show y.next=(updc ch id ks y.id).headD 0
    rcases mem_tnote ht.rise hid hy with rfl | ⟨hy,hne⟩
    · unfold updc
      rw[if_pos rfl]
      exact hnxx.symm
    · unfold updc
      rw[if_neg hne]
      exact hc.next y hy
  · have hj':j∈updc ch id ks y.id:=hj
    rcases mem_tnote ht.rise hid hy with rfl | ⟨hy,hne⟩
    · unfold updc at hj'
      rw[if_pos rfl] at hj'
      have hj2:j∈ch x.id:=by rw[hxid,hch];exact List.mem_cons_of_mem _ hj'
      have:=hc.sets x hx j hj2 q (old_ x hx j hj2 q hq)
      rw[hxid] at this
      exact⟨this.txn,this.page,this.held⟩
    · unfold updc at hj'
      rw[if_neg hne] at hj'
      have:=hc.sets y hy j hj' q (old_ y hy j hj' q hq)
      exact⟨this.txn,this.page,this.held⟩
  · show F.kept - 1=((tnote F.ts id _ _).map _).sum
    rw[sum_note ht.rise hid,hc.kept,hch,List.length_cons]
    omega
  · show (cur (chgS F.S c) p).2.length+l.length≤20
    have hl' : ∀j∈l,placeOf j F.P=p∧(if j=r.key then (if r.had then some r.old else none) else vals F j)=none∧∃y∈F.ts,∃n∈ch y.id,∃q,recOf F.S.l n=some q∧q.key=j:=fun j hj=>by
      obtain⟨a1,a2,y,hy,n,hn2,q,hq,e⟩:=hl j hj
      refine⟨a1,by rw[←hvals];exact a2,?_⟩
      have hn3:n∈updc ch id ks y.id:=hn2
      rcases mem_tnote ht.rise hid hy with rfl | ⟨hy,hne⟩
      · unfold updc at hn3
        rw[if_pos rfl] at hn3
        have hn4:n∈ch x.id:=by rw[hxid,hch];exact List.mem_cons_of_mem _ hn3
        exact⟨x,hx,n,hn4,q,old_ x hx n hn4 q hq,e⟩
      · unfold updc at hn3
        rw[if_neg hne] at hn3
        exact⟨y,hy,n,hn3,q,old_ y hy n hn3 q hq,e⟩
    rw[c4]
    by_cases hp:p=c.page
    · rw[if_pos hp]
      simp only
      rw[r1] at hp ⊢
      subst hp
      have hfl : ∀l:List Int,l.Nodup→l.length≤(l.filter fun j=>j != r.key).length+1:=by
        intro l
        induction l with
        | nil=>intro _;simp
        | cons a aa ih=>
          intro hn
          rw[List.nodup_cons] at hn
          by_cases e:a=r.key
          · have:aa.filter (fun j=>j != r.key)=aa:=List.filter_eq_self.2 fun j hj=>by
              simp
              intro e2
              exact hn.1 (by rw[e,←e2];exact hj)
            simp[e,this]
          · have:=ih hn.2
            simp[e]
            omega
      cases hhad:r.had with
      | true=>
        have hnk : ∀j∈l,j≠r.key:=fun j hj e=>by
          have:=(hl' j hj).2.1
          rw[if_pos e,hhad] at this
          cases this
        have hl2 : ∀j∈l,placeOf j F.P=r.page∧vals F j=none∧∃y∈F.ts,∃n∈ch y.id,∃q,recOf F.S.l n=some q∧q.key=j:=fun j hj=>by
          obtain⟨a1,a2,a3⟩:=hl' j hj
          rw[if_neg (hnk j hj)] at a2
          exact⟨a1,a2,a3⟩
        unfold redoE
        rw[r3,hhad,if_pos rfl,r2,len_put hrise]
        split
        · exact hc.cap _ p1 p2 l hn hl2
        · rename_i hnone
          have:=hc.cap _ p1 p2 (r.key :: l) (List.nodup_cons.2 ⟨fun hm=>hnk _ hm rfl,hn⟩) (fun j hj=>by
            rcases List.mem_cons.1 hj with rfl | hj
            · exact⟨sp.symm,by rw[hvk];simpa using hnone,hin⟩
            · exact hl2 j hj)
          rw[List.length_cons] at this
          omega
      | false=>
        have hl2 : ∀j∈l.filter (fun j=>j != r.key),placeOf j F.P=r.page∧vals F j=none∧∃y∈F.ts,∃n∈ch y.id,∃q,recOf F.S.l n=some q∧q.key=j:=fun j hj=>by
          obtain⟨hj2,hj3⟩:=List.mem_filter.1 hj
          have hne:j≠r.key:=by simpa using hj3
          obtain⟨a1,a2,a3⟩:=hl' j hj2
          rw[if_neg hne] at a2
          exact⟨a1,a2,a3⟩
        unfold redoE
        rw[r3,hhad,if_neg (by decide),r2,len_drop hrise]
        split
        · rename_i hsome
          have hes:0<(cur F.S r.page).2.length:=by
            obtain⟨v,hv⟩:=Option.isSome_iff_exists.1 hsome
            exact List.length_pos_of_mem ((val_some hrise _ _).1 hv)
          have h1:=hc.cap _ p1 p2 _ (hn.sublist List.filter_sublist) hl2
          have h2:=hfl l hn
          omega
        · rename_i hnone
          refine hc.cap _ p1 p2 l hn fun j hj => ?_
          obtain⟨a1,a2,a3⟩:=hl' j hj
          by_cases e:j=r.key
          · exact⟨a1,by rw[e,hvk];simpa using hnone,a3⟩
          · rw[if_neg e] at a2
            exact⟨a1,a2,a3⟩
    · rw[if_neg hp]
      refine hc.cap p a b l hn fun j hj => ?_
      obtain⟨a1,a2,a3⟩:=hl' j hj
      have hne:j≠r.key:=fun e=>hp (by rw[r1,sp,←a1,e])
      rw[if_neg hne] at a2
      exact⟨a1,a2,a3⟩
def recMark (x:Tx)(kind:Int):RecV:=⟨kind,x.id,0,x.last,0,0,false,false,0,0⟩
theorem recMark_ok {x:Tx}{kind:Int}(hk:4≤kind∧kind≤6)(h1:1≤x.id∧x.id≤60000)(hl:0≤x.last∧x.last≤1073741824):recOk (recMark x kind)=true:=by
  have:kind=4∨kind=5∨kind=6:=by omega
  unfold recOk recMark inB txnMax pageMax prevOk nextOk rkeyOk valsOk inB
  rcases this with rfl | rfl | rfl<;>simp<;>omega
def markF (F:FS)(id kind st:Int):FS:=
  { F with S:=addRec F.S (recMark (tget F.ts id) kind),ts:=tstate (tnote F.ts id (F.S.l.last+1) (tget F.ts id).next) id st,kept:=F.kept - 1 }
def updk (kp:Int→Int)(id v:Int):Int→Int:=fun t=>if t=id then v else kp t
theorem sum_kp {ch:Int→List Int}{kp:Int→Int}{ts:List Tx}{id v:Int}(hr:Rising (kvT ts))(h:thas ts id=true) :
    (ts.map fun x=>updk kp id v x.id+((ch x.id).length:Int)).sum=(ts.map fun x=>kp x.id+((ch x.id).length:Int)).sum+v - kp id:=by
  obtain⟨t,h1,h2,h3⟩:=thas_at h
  have key : ∀(k:Nat) (ts:List Tx),ts[k]? = some t→(∀j u,ts[j]? = some u→u.id=id→j=k)→(ts.map fun x=>updk kp id v x.id+((ch x.id).length:Int)).sum=(ts.map fun x=>kp x.id+((ch x.id).length:Int)).sum+v - kp id:=by
    intro k
    induction k with
    | zero=>
      intro ts hk hu
      cases ts with
      | nil=>cases hk
      | cons a aa=>
        simp at hk
        subst hk
        simp only[List.map_cons,List.sum_cons]
        have:(aa.map fun x=>updk kp id v x.id+((ch x.id).length:Int)).sum=(aa.map fun x=>kp x.id+((ch x.id).length:Int)).sum:=sum_congr fun x hx=>by
          unfold updk
          rw[if_neg]
          intro e
          obtain⟨j,hj,e2⟩:=List.getElem_of_mem hx
          have:=hu (j+1) x (by simp[List.getElem?_eq_getElem hj,e2]) e
          omega
        rw[this]
        unfold updk
        rw[h2,if_pos rfl]
        omega
    | succ k ih=>
      intro ts hk hu
      cases ts with
      | nil=>cases hk
      | cons a aa=>
        simp only[List.map_cons,List.sum_cons]
        rw[ih aa (by simpa using hk) (fun j u hj e=>by
          have:=hu (j+1) u (by simpa using hj) e
          omega)]
        have:a.id≠id:=fun e=>by
          have:=hu 0 a rfl e
          omega
        unfold updk
        rw[if_neg this]
        omega
  exact key _ ts h1 (fun j u hj e=>kvT_at hr hj h1 (e.trans h2.symm))
theorem sum_ids {f:Int→Int}{a b:List Tx}(h:idsT a=idsT b):(a.map fun x=>f x.id).sum=(b.map fun x=>f x.id).sum:=by
  have : ∀l:List Tx,(l.map fun x=>f x.id)=(idsT l).map f:=fun l=>by unfold idsT;rw[List.map_map];rfl
  rw[this,this,h]
theorem mark_ok {N m:Nat}{ch:Int→List Int}{kp:Int→Int}{F:FS}{id kind st:Int}(h:FOk N m ch kp F)(hid:thas F.ts id=true)(hk:kind=4∨kind=5)(hkp:kp id=2)(hroom:1≤F.S.l.room)(hkept:1≤F.kept) :
    recOk (recMark (tget F.ts id) kind)=true∧FOk N m ch (updk kp id 1) (markF F id kind st):=by
  obtain⟨hg,ht,hc⟩:=h
  obtain⟨ro1,ro2,ro3⟩:=hg.room
  obtain⟨hx,hxid⟩:=tget_mem hid
  obtain⟨x,hxx⟩ : ∃x,tget F.ts id=x:=⟨_,rfl⟩
  rw[hxx] at hx hxid ⊢
  obtain⟨la,lb,lc⟩:=hc.last x hx
  have hl1:F.S.l.last+1≤1073741824:=by unfold Lg.room at hroom;omega
  have hl0:0≤F.S.l.last:=by have:=hg.lok.base;unfold Lg.last;omega
  obtain⟨i1,i2⟩:=ht.ids x hx
  have hm0:=ht.most
  have hrok:recOk (recMark x kind)=true:=recMark_ok (by omega) ⟨i1,by omega⟩ ⟨lc,by omega⟩
  have hmark:markF F id kind st={ F with S:=addRec F.S (recMark x kind),ts:=tstate (tnote F.ts id (F.S.l.last+1) x.next) id st,kept:=F.kept - 1 }:=by unfold markF;rw[hxx]
  rw[hmark]
  have hg2:=hg.rec_ (r:=recMark x kind) (fr:=F.free) (kp:=F.kept - 1) hrok (by unfold is64 recMark;simp) hroom (by omega) (by omega) (by omega)
  have hold : ∀n q,recOf F.S.l n=some q→recOf (addRec F.S (recMark x kind)).l n=some q:=fun n q hq=>addRec_rec hq
  have hlast:=addRec_last F.S (recMark x kind)
  have hrise1:Rising (kvT (tnote F.ts id (F.S.l.last+1) x.next)):=tnote_rise ht.rise
  have hid1:thas (tnote F.ts id (F.S.l.last+1) x.next) id=true:=by rw[thas_ids hrise1,ids_tnote,←thas_ids ht.rise];exact hid
  have hids:idsT (tstate (tnote F.ts id (F.S.l.last+1) x.next) id st)=idsT F.ts:=by rw[ids_tstate,ids_tnote]
  have hmem : ∀y∈tstate (tnote F.ts id (F.S.l.last+1) x.next) id st,(y.id=id∧y.last=F.S.l.last+1∧y.next=x.next)∨(y∈F.ts∧y.id≠id):=fun y hy=>by
    rcases mem_tstate hrise1 hid1 hy with rfl | ⟨hy,hne⟩
    · left
      obtain⟨hz,hzid⟩:=tget_mem hid1
      rcases mem_tnote ht.rise hid hz with e | ⟨_,e⟩
      · rw[e];exact⟨rfl,rfl,rfl⟩
      · exact absurd hzid e
    · rcases mem_tnote ht.rise hid hy with rfl | ⟨hy2,hne2⟩
      · exact absurd rfl hne
      · exact .inr ⟨hy2,hne2⟩
  have old_ : ∀y∈F.ts,∀n∈ch y.id,∀q,recOf (addRec F.S (recMark x kind)).l n=some q→recOf F.S.l n=some q:=fun y hy n hn q hq=>by
    obtain⟨_,q2,hq2,_⟩:=(hc.last y hy).1.at_ n hn
    rw[hold _ _ hq2] at hq
    cases hq
    exact hq2
  refine⟨hrok,⟨hg2.pg,hg2.fit,hg2.lok,hg2.fuse,hg2.loose,hg2.lsn,hg2.six,hg2.p32,hg2.room⟩,TOk.turn ht (tstate_rise hrise1) rfl rfl rfl hids,⟨fun y hy => ?_,fun y hy => ?_,fun y hy j hj q hq => ?_,?_,fun p a b l hn hl => ?_⟩⟩
  · show Chain (addRec F.S _).l y.last (ch y.id)∧y.last≤(addRec F.S _).l.last∧0≤y.last
    rw[hlast]
    rcases hmem y hy with ⟨e1,e2,e3⟩ | ⟨hy,hne⟩
    · rw[e1,e2,←hxid]
      refine⟨(la.keep hold).of_norm ?_,Int.le_refl _,by omega⟩
      exact .end_ (r:=recMark x kind) (by omega) (addRec_new F.S _) hk (by show x.last<_;omega) ((la.keep hold).norm)
    · obtain⟨a,b,d⟩:=hc.last y hy
      exact⟨a.keep hold,by omega,d⟩
  · rcases hmem y hy with ⟨e1,e2,e3⟩ | ⟨hy,hne⟩
    · rw[e1,e3,←hxid];exact hc.next x hx
    · exact hc.next y hy
  · rcases hmem y hy with ⟨e1,e2,e3⟩ | ⟨hy,hne⟩
    · rw[e1,←hxid] at hj
      have:=hc.sets x hx j hj q (old_ x hx j hj q hq)
      rw[e1,←hxid]
      exact⟨this.txn,this.page,this.held⟩
    · have:=hc.sets y hy j hj q (old_ y hy j hj q hq)
      exact⟨this.txn,this.page,this.held⟩
  · show F.kept - 1=((tstate _ id st).map _).sum
    rw[sum_kp (tstate_rise hrise1) (by rw[thas_ids (tstate_rise hrise1),hids,←thas_ids ht.rise];exact hid),sum_ids (f:=fun i=>kp i+((ch i).length:Int)) hids,hc.kept,hkp]
    omega
  · refine hc.cap p a b l hn fun j hj => ?_
    obtain⟨a1,a2,y,hy,n,hn2,q,hq,e⟩:=hl j hj
    rcases hmem y hy with ⟨e1,e2,e3⟩ | ⟨hy,hne⟩
    · rw[e1,←hxid] at hn2
      exact⟨a1,a2,x,hx,n,hn2,q,old_ x hx n hn2 q hq,e⟩
    · exact⟨a1,a2,y,hy,n,hn2,q,old_ y hy n hn2 q hq,e⟩
def endF (F:FS)(n id:Int)(let_:Int):FS:=
  { F with S:=addRec F.S (recMark (tget F.ts id) 6),ts:=tdrop F.ts id,ks:=freeL F.ks n,of:=upd F.of n 0,kept:=F.kept - 1 - let_,free:=F.free+let_ }
theorem sum_drop {g:Int→Int}{ts:List Tx}{id:Int}(h:thas ts id=true):((tdrop ts id).map fun x=>g x.id).sum=(ts.map fun x=>g x.id).sum - g id:=by
  obtain⟨t,h1,h2,h3⟩:=thas_at h
  unfold tdrop
  rw[if_pos h]
  have key : ∀(k:Nat) (ts:List Tx),ts[k]? = some t→((ts.eraseIdx k).map fun x=>g x.id).sum=(ts.map fun x=>g x.id).sum - g id:=by
    intro k
    induction k with
    | zero=>
      intro ts hk
      cases ts with
      | nil=>cases hk
      | cons a aa=>
        simp at hk
        subst hk
        simp[h2]
        omega
    | succ k ih=>
      intro ts hk
      cases ts with
      | nil=>cases hk
      | cons a aa=>
        rw[List.eraseIdx_cons_succ]
        simp only[List.map_cons,List.sum_cons]
        rw[ih aa (by simpa using hk)]
        omega
  exact key _ ts h1
theorem end_ok {N m:Nat}{ch:Int→List Int}{kp:Int→Int}{F:FS}{id n:Int}(h:FOk N m ch kp F)(hid:thas F.ts id=true)(hof:F.of n=id)(hkp:kp id=1)(hkpos : ∀x,0≤kp x) :
    recOk (recMark (tget F.ts id) 6)=true∧1+((ch id).length:Int)≤F.kept∧1≤F.S.l.room∧FOk N m ch kp (endF F n id ((ch id).length:Int)):=by
  obtain⟨hg,ht,hc⟩:=h
  obtain⟨ro1,ro2,ro3⟩:=hg.room
  obtain⟨hx,hxid⟩:=tget_mem hid
  obtain⟨x,hxx⟩ : ∃x,tget F.ts id=x:=⟨_,rfl⟩
  rw[hxx] at hx hxid ⊢
  obtain⟨la,lb,lc⟩:=hc.last x hx
  have hsum:=sum_drop (g:=fun i=>kp i+((ch i).length:Int)) hid
  have hpos:0≤((tdrop F.ts id).map fun x=>kp x.id+((ch x.id).length:Int)).sum:=by
    generalize tdrop F.ts id=l
    induction l with
    | nil=>simp
    | cons b bs ih=>
      rw[List.map_cons,List.sum_cons]
      have:=hkpos b.id
      omega
  have hkept:=hc.kept
  simp only[hkp] at hsum
  have hk1:1+((ch id).length:Int)≤F.kept:=by omega
  have hroom:1≤F.S.l.room:=by omega
  have hl1:F.S.l.last+1≤1073741824:=by unfold Lg.room at hroom;omega
  obtain⟨i1,i2⟩:=ht.ids x hx
  have hm0:=ht.most
  have hrok:recOk (recMark x 6)=true:=recMark_ok (by omega) ⟨i1,by omega⟩ ⟨lc,by omega⟩
  have hend:endF F n id ((ch id).length:Int)={ F with S:=addRec F.S (recMark x 6),ts:=tdrop F.ts id,ks:=freeL F.ks n,of:=upd F.of n 0,kept:=F.kept - 1 - ((ch id).length:Int),free:=F.free+((ch id).length:Int) }:=by unfold endF;rw[hxx]
  rw[hend]
  have hg2:=hg.rec_ (r:=recMark x 6) (fr:=F.free+((ch id).length:Int)) (kp:=F.kept - 1 - ((ch id).length:Int)) hrok (by unfold is64 recMark;simp) hroom (by omega) (by omega) (by omega)
  have hold : ∀n q,recOf F.S.l n=some q→recOf (addRec F.S (recMark x 6)).l n=some q:=fun n q hq=>addRec_rec hq
  have hlast:=addRec_last F.S (recMark x 6)
  have hrise:Rising (kvT (tdrop F.ts id)):=tdrop_rise ht.rise
  have hmem : ∀y,y∈tdrop F.ts id↔y∈F.ts∧y.id≠id:=fun y=>mem_tdrop ht.rise hid
  have hn0:F.of n≠0:=by rw[hof,←hxid];omega
  have old_ : ∀y∈F.ts,∀n∈ch y.id,∀q,recOf (addRec F.S (recMark x 6)).l n=some q→recOf F.S.l n=some q:=fun y hy n hn q hq=>by
    obtain⟨_,q2,hq2,_⟩:=(hc.last y hy).1.at_ n hn
    rw[hold _ _ hq2] at hq
    cases hq
    exact hq2
  refine⟨hrok,hk1,hroom,⟨hg2.pg,hg2.fit,hg2.lok,hg2.fuse,hg2.loose,hg2.lsn,hg2.six,hg2.p32,hg2.room⟩,⟨hrise,fun y hy=>ht.ids y ((hmem y).1 hy).1,ht.most,fun s hs => ?_,fun s t e hs => ?_,fun y hy => ?_⟩,⟨fun y hy => ?_,fun y hy=>hc.next y ((hmem y).1 hy).1,fun y hy j hj q hq => ?_,?_,fun p a b l hn hl => ?_⟩⟩
  · have hs':upd F.of n 0 s≠0:=hs
    unfold upd at hs'
    by_cases e:s=n
    · rw[if_pos e] at hs';exact absurd rfl hs'
    · rw[if_neg e] at hs'
      obtain⟨a,b,c⟩:=ht.ofs s hs'
      refine⟨a,b,?_⟩
      show thas (tdrop F.ts id) (upd F.of n 0 s)=true
      unfold upd
      rw[if_neg e,thas_iff hrise]
      obtain⟨y,hy,e2⟩:=(thas_iff ht.rise _).1 c
      refine⟨y,(hmem y).2 ⟨hy,fun e3=>e ?_⟩,e2⟩
      exact ht.inj s n (by rw[←e2,e3,hof]) hs'
  · have e':upd F.of n 0 s=upd F.of n 0 t:=e
    have hs':upd F.of n 0 s≠0:=hs
    unfold upd at e' hs'
    by_cases e1:s=n
    · rw[if_pos e1] at hs';exact absurd rfl hs'
    · rw[if_neg e1] at e' hs'
      by_cases e2:t=n
      · rw[if_pos e2] at e';exact absurd e' hs'
      · rw[if_neg e2] at e'
        exact ht.inj s t e' hs'
  · obtain⟨hy1,hy2⟩:=(hmem y).1 hy
    obtain⟨s,hs⟩:=ht.on y hy1
    refine⟨s,?_⟩
    show upd F.of n 0 s=y.id
    unfold upd
    rw[if_neg,hs]
    intro e
    rw[e,hof] at hs
    exact hy2 hs.symm
  · obtain⟨hy1,hy2⟩:=(hmem y).1 hy
    obtain⟨a,b,d⟩:=hc.last y hy1
    show Chain (addRec F.S _).l y.last (ch y.id)∧y.last≤(addRec F.S _).l.last∧0≤y.last
    rw[hlast]
    exact⟨a.keep hold,by omega,d⟩
  · obtain⟨hy1,hy2⟩:=(hmem y).1 hy
    obtain⟨s1,s2,lk,k1,k2,k3,k4⟩:=hc.sets y hy1 j hj q (old_ y hy1 j hj q hq)
    have hne:lk.s≠n:=fun e=>hy2 (by rw[←k4,e,hof])
    refine⟨s1,s2,lk,?_,k2,k3,?_⟩
    · show lk∈freeL F.ks n
      unfold freeL
      rw[List.mem_filter]
      exact⟨k1,by simp[hne]⟩
    · show upd F.of n 0 lk.s=y.id
      unfold upd
      rw[if_neg hne];exact k4
  · show F.kept - 1 - ((ch id).length:Int)=((tdrop F.ts id).map _).sum
    omega
  · refine hc.cap p a b l hn fun j hj => ?_
    obtain⟨a1,a2,y,hy,n,hn2,q,hq,e⟩:=hl j hj
    obtain⟨hy1,hy2⟩:=(hmem y).1 hy
    exact⟨a1,a2,y,hy1,n,hn2,q,old_ y hy1 n hn2 q hq,e⟩
end Go.Proofs.YtaplpeoikebedaaGreatDoor.StoreH
