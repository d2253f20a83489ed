/- Joined texts: PageM, StoreF. No condition but what each says. -/
import Derived.Test.YtaplpeoikebedaaGreatDoorY19
set_option maxHeartbeats 8000000
set_option maxRecDepth 100000
set_option linter.unusedVariables false
set_option linter.unusedSimpArgs false
namespace Go.Proofs.YtaplpeoikebedaaGreatDoor.PageM
open Go.RowKit See Mem Clone Go.Proofs.YtaplpeoikebedaaGreatDoor.Cell Page PageB PageR PageL Dirty Dirty2 SysD RecD PoolS TabL AheadD StoreD
theorem pageOk_iff (lsn:Int)(es:List (Int×Int)):pageOk lsn es=true↔headOk lsn es.length=true∧Rising es∧∀e∈es,0≤e.1∧e.1<1048576:=by
  constructor
  · intro h
    have hk : ∀(k:Nat) (e:Int×Int),es[k]? = some e→0≤e.1∧e.1<1048576∧(∀p,0<k→es[k - 1]? = some p→p.1<e.1):=fun k e he=>by
      have hlt:=(List.getElem?_eq_some_iff.1 he).1
      have h1:=keyOk_of h hlt
      unfold keyOk at h1
      rw[he] at h1
      simp only[Bool.and_eq_true,Bool.or_eq_true,decide_eq_true_eq,beq_iff_eq] at h1
      refine⟨h1.1.1,h1.1.2,fun p hp hq => ?_⟩
      rcases h1.2 with h2 | h2
      · omega
      · rw[hq] at h2;simpa using h2
    refine⟨headOk_of h,?_,fun e he => ?_⟩
    · unfold Rising
      rw[List.pairwise_iff_getElem]
      intro i j hi hj hij
      have step : ∀d i,(h1:i<es.length)→(h2:i+d+1<es.length)→es[i].1<es[i+d+1].1:=by
        intro d
        induction d with
        | zero=>
          intro i h1 h2
          exact (hk (i+1) es[i+1] (List.getElem?_eq_getElem h2)).2.2 es[i] (by omega) (by simp[List.getElem?_eq_getElem h1])
        | succ d ih=>
          intro i h1 h2
          have a:=ih i h1 (by omega)
          have b:=(hk (i+d+1+1) es[i+d+1+1] (List.getElem?_eq_getElem h2)).2.2 es[i+d+1] (by omega) (by simp[List.getElem?_eq_getElem (show i+d+1<es.length by omega)])
          exact Int.lt_trans a b
      have:=step (j - i - 1) i hi (by omega)
      have e:i+(j - i - 1)+1=j:=by omega
      simp only[e] at this
      exact this
    · obtain⟨k,hk2,hke⟩:=List.getElem_of_mem he
      have:=hk k e (by rw[List.getElem?_eq_getElem hk2,hke])
      exact⟨this.1,this.2.1⟩
  · rintro⟨h1,h2,h3⟩
    refine pageOk_true h1 fun k hk => ?_
    unfold keyOk
    rw[List.getElem?_eq_getElem hk]
    have hm:=h3 es[k] (List.getElem_mem hk)
    simp only[Bool.and_eq_true,Bool.or_eq_true,decide_eq_true_eq,beq_iff_eq]
    refine⟨⟨hm.1,hm.2⟩,?_⟩
    by_cases h0:k=0
    · exact .inl h0
    · right
      rw[List.getElem?_eq_getElem (show k - 1<es.length by omega)]
      simp only[decide_eq_true_eq]
      exact List.pairwise_iff_getElem.1 h2 (k - 1) k (by omega) hk (by omega)
theorem PageV.rise {lsn:Int}{es:List (Int×Int)}(h:PageV lsn es):Rising es:=((pageOk_iff _ _).1 h.1).2.1
def val (es:List (Int×Int))(k:Int):Option Int:=(es.find? fun e=>decide (e.1=k)).map (·.2)
theorem val_some {es:List (Int×Int)}(hr:Rising es)(k v:Int):val es k=some v↔(k,v)∈es:=by
  unfold val
  rw[Option.map_eq_some_iff]
  constructor
  · rintro⟨e,he,rfl⟩
    have h1:=List.mem_of_find?_eq_some he
    have h2:=List.find?_some he
    simp at h2
    rw[←h2]
    exact h1
  · intro hm
    cases hf:es.find? fun e=>decide (e.1=k) with
    | none=>
      rw[List.find?_eq_none] at hf
      exact absurd (by simp) (hf _ hm)
    | some e=>
      have h1:=List.mem_of_find?_eq_some hf
      have h2:=List.find?_some hf
      simp at h2
      refine⟨e,rfl,?_⟩
      obtain⟨i,hi,e1⟩:=List.getElem_of_mem h1
      obtain⟨j,hj,e2⟩:=List.getElem_of_mem hm
      have hp:=List.pairwise_iff_getElem.1 hr
      rcases Nat.lt_trichotomy i j with h | h | h
      · have:=hp i j hi hj h;rw[e1,e2] at this;simp only at this;omega
      · subst h;rw[e1] at e2;rw[e2]
      · have:=hp j i hj hi h;rw[e1,e2] at this;simp only at this;omega
theorem val_none {es:List (Int×Int)}(k:Int):val es k=none↔∀e∈es,e.1≠k:=by
  unfold val
  rw[Option.map_eq_none_iff,List.find?_eq_none]
  simp
theorem has_val {es:List (Int×Int)}(hr:Rising es)(k:Int):has es k=(val es k).isSome:=by
  cases hv:val es k with
  | none=>
    rw[val_none] at hv
    rw[Option.isSome_none,Bool.eq_false_iff]
    intro e
    obtain⟨d,hd,e2⟩:=(has_iff _ k hr).1 e
    exact hv d hd e2
  | some v=>
    rw[val_some hr] at hv
    exact (has_iff _ k hr).2 ⟨_,hv,rfl⟩
theorem from_val {es:List (Int×Int)}(hr:Rising es)(k:Int):fromOf es k=(val es k).getD 0:=by
  unfold fromOf
  rw[has_val hr]
  cases hv:val es k with
  | none=>rfl
  | some v=>
    have hh:has es k=true:=by rw[has_val hr,hv];rfl
    obtain⟨f,hf⟩:=pos_has hh
    have:val es k=some f:=(val_some hr k f).2 (List.mem_of_getElem? hf)
    rw[hv] at this
    cases this
    simp[hf]
theorem mem_add {ds:List (Int×Int)}{n f:Int}(h:has ds n=false)(x:Int×Int):x∈addT ds n f↔x=(n,f)∨x∈ds:=by
  unfold addT
  rw[if_neg (by rw[h];decide)]
  have e:x∈ds↔x∈ds.take (pos ds n)∨x∈ds.drop (pos ds n):=by rw[←List.mem_append,List.take_append_drop]
  rw[List.mem_append,List.mem_cons,e]
  constructor
  · rintro (h | h | h)
    · exact .inr (.inl h)
    · exact .inl h
    · exact .inr (.inr h)
  · rintro (h | h | h)
    · exact .inr (.inl h)
    · exact .inl h
    · exact .inr (.inr h)
theorem mem_drop {ds:List (Int×Int)}{n:Int}(hr:Rising ds)(x:Int×Int):x∈dropT ds n↔x∈ds∧x.1≠n:=
  ⟨fun h=>⟨drop_mem h,drop_ne ds n hr x h⟩,fun h=>drop_keep hr h.1 h.2⟩
theorem mem_put {es:List (Int×Int)}{k v:Int}(hr:Rising es)(x:Int×Int):x∈putE es k v↔x=(k,v)∨(x∈es∧x.1≠k):=by
  unfold putE
  by_cases h:has es k=true
  · rw[if_pos h]
    obtain⟨f,hf⟩:=pos_has h
    have hlt:=(List.getElem?_eq_some_iff.1 hf).1
    rw[List.mem_iff_getElem?]
    constructor
    · rintro⟨i,hi⟩
      by_cases hne:pos es k=i
      · subst hne
        rw[List.getElem?_set_self (by omega)] at hi
        exact .inl (Option.some.inj hi).symm
      · rw[List.getElem?_set_ne hne] at hi
        refine .inr ⟨List.mem_of_getElem? hi,fun e=>hne ?_⟩
        obtain⟨h1,h2⟩:=List.getElem?_eq_some_iff.1 hi
        obtain⟨h3,h4⟩:=List.getElem?_eq_some_iff.1 hf
        have hp:=List.pairwise_iff_getElem.1 hr
        rcases Nat.lt_trichotomy (pos es k) i with h | h | h
        · have:=hp _ _ h3 h1 h;rw[h4,h2] at this;simp only at this;omega
        · exact h
        · have:=hp _ _ h1 h3 h;rw[h4,h2] at this;simp only at this;omega
    · rintro (rfl | ⟨hm,hne⟩)
      · exact⟨pos es k,by rw[List.getElem?_set_self (by omega)]⟩
      · obtain⟨i,hi,e⟩:=List.getElem_of_mem hm
        refine⟨i,?_⟩
        rw[List.getElem?_set,if_neg,List.getElem?_eq_getElem hi,e]
        intro e2
        subst e2
        obtain⟨h3,h4⟩:=List.getElem?_eq_some_iff.1 hf
        rw[e] at h4
        exact hne (by rw[h4])
  · have h':has es k=false:=Bool.eq_false_iff.2 h
    rw[if_neg h,mem_add h']
    constructor
    · rintro (h1 | h1)
      · exact .inl h1
      · exact .inr ⟨h1,fun e=>h ((has_iff _ k hr).2 ⟨x,h1,e⟩)⟩
    · rintro (h1 | h1)
      · exact .inl h1
      · exact .inr h1.1
theorem put_rise {es:List (Int×Int)}{k v:Int}(hr:Rising es):Rising (putE es k v):=by
  unfold putE
  split
  · rename_i h
    obtain⟨f,hf⟩:=pos_has h
    refine rising_keys ?_ hr
    apply List.ext_getElem?
    intro i
    rw[List.getElem?_map,List.getElem?_map,List.getElem?_set]
    split
    · rename_i e
      subst e
      rw[if_pos (List.getElem?_eq_some_iff.1 hf).1,hf]
      rfl
    · rfl
  · exact addT_rising hr k v
theorem val_put {es:List (Int×Int)}{k v:Int}(hr:Rising es)(j:Int):val (putE es k v) j=if j=k then some v else val es j:=by
  by_cases hj:j=k
  · rw[if_pos hj,val_some (put_rise hr),mem_put hr]
    exact .inl (by rw[hj])
  · rw[if_neg hj]
    apply Option.ext
    intro x
    rw[val_some (put_rise hr),val_some hr,mem_put hr]
    constructor
    · rintro (h | h)
      · cases h;exact absurd rfl hj
      · exact h.1
    · intro h;exact .inr ⟨h,hj⟩
theorem val_drop {es:List (Int×Int)}{k:Int}(hr:Rising es)(j:Int):val (dropT es k) j=if j=k then none else val es j:=by
  apply Option.ext
  intro x
  rw[val_some (dropT_rising hr k),mem_drop hr]
  by_cases hj:j=k
  · rw[if_pos hj]
    constructor
    · intro h;exact absurd hj h.2
    · intro h;cases h
  · rw[if_neg hj,val_some hr]
    exact⟨fun h=>h.1,fun h=>⟨h,hj⟩⟩
theorem val_redo {es:List (Int×Int)}{r:RecV}(hr:Rising es)(j:Int):val (redoE es r) j=if j=r.key then (if r.has then some r.new else none) else val es j:=by
  unfold redoE
  by_cases h:r.has=true
  · rw[if_pos h,val_put hr,if_pos h]
  · rw[if_neg h,val_drop hr,if_neg h]
theorem redo_rise {es:List (Int×Int)}{r:RecV}(hr:Rising es):Rising (redoE es r):=by
  unfold redoE
  split
  · exact put_rise hr
  · exact dropT_rising hr _
theorem len_put {es:List (Int×Int)}{k v:Int}(hr:Rising es):(putE es k v).length=if (val es k).isSome then es.length else es.length+1:=by
  unfold putE
  rw[←has_val hr]
  split
  · rw[List.length_set]
  · rename_i h
    unfold addT
    rw[if_neg h]
    have:=pos_le es k
    simp[List.length_take,List.length_drop]
    omega
theorem len_drop {es:List (Int×Int)}{k:Int}(hr:Rising es):(dropT es k).length=if (val es k).isSome then es.length - 1 else es.length:=by
  unfold dropT
  rw[←has_val hr]
  split
  · rename_i h
    obtain⟨f,hf⟩:=pos_has h
    rw[List.length_eraseIdx,if_pos (List.getElem?_eq_some_iff.1 hf).1]
  · rfl
theorem redo_page {l0 lsn:Int}{es:List (Int×Int)}{r:RecV}(h:PageV l0 es)(h1:1≤lsn)(h2:lsn≤1073741824)(hk:0≤r.key∧r.key<1048576)(hn:is64 r.new)(hl:(redoE es r).length≤20):PageV lsn (redoE es r):=by
  have hr:=PageV.rise h
  obtain⟨p1,p2⟩:=h
  obtain⟨q1,q2,q3⟩:=(pageOk_iff _ _).1 p1
  have hm : ∀e∈redoE es r,e=(r.key,r.new)∨e∈es:=fun e he=>by
    unfold redoE at he
    split at he
    · rcases (mem_put hr e).1 he with h | h
      · exact .inl h
      · exact .inr h.1
    · exact .inr (drop_mem he)
  refine⟨(pageOk_iff _ _).2 ⟨?_,redo_rise hr,fun e he => ?_⟩,fun e he => ?_⟩
  · unfold headOk;simp;omega
  · rcases hm e he with rfl | h
    · exact hk
    · exact q3 e h
  · rcases hm e he with rfl | h
    · exact hn
    · exact p2 e h
end Go.Proofs.YtaplpeoikebedaaGreatDoor.PageM
namespace Go.Proofs.YtaplpeoikebedaaGreatDoor.StoreF
open Go.RowKit See Mem Clone Go.Proofs.YtaplpeoikebedaaGreatDoor.Cell Page PageB PageR PageL Disk DiskN DiskW RecD Dirty Dirty2 SysD SysM Wal WalF GoodD PoolG PoolS FlushG Fresh DirtD PoolA TabL SortI AheadD Pager StoreD PageM
structure FS where
  S:PSys
  P:Int
  sess:Int
  ks:List Lk
  ts:List Tx
  most:Int
  free:Int
  kept:Int
  of:Int→Int
def vals (F:FS)(k:Int):Option Int:=val (cur F.S (placeOf k F.P)).2 k
structure GOk (N m:Nat) (F:FS):Prop where
  pg:PgOk N F.P F.S
  fit:F.S.l.first+F.S.l.blocks≤N
  lok:F.S.l.Ok
  fuse:FuseOk F.S.d
  loose:LooseLe F.S.d m
  lsn : ∀p,1≤p→p≤F.P→(cur F.S p).1≤F.S.l.last
  six : ∀r∈F.S.l.l,is64 r.old∧is64 r.new
  p32:F.P≤32
  room:0≤F.free∧0≤F.kept∧F.free+F.kept=F.S.l.room
structure TOk (F:FS):Prop where
  rise:Rising (kvT F.ts)
  ids : ∀x∈F.ts,1≤x.id∧x.id≤F.most
  most:0≤F.most∧F.most≤60000
  ofs : ∀s,F.of s≠0→0≤s∧s<F.sess∧thas F.ts (F.of s)=true
  inj : ∀s t,F.of s=F.of t→F.of s≠0→s=t
  on : ∀x∈F.ts,∃s,F.of s=x.id
structure SOk (F:FS) (id:Int) (r:RecV):Prop where
  txn:r.txn=id
  page:r.page=placeOf r.key F.P
  held : ∃h∈F.ks,h.mode=2∧h.key=r.key∧F.of h.s=id
structure COk (ch:Int→List Int) (kp:Int→Int) (F:FS):Prop where
  last : ∀x∈F.ts,Chain F.S.l x.last (ch x.id)∧x.last≤F.S.l.last∧0≤x.last
  next : ∀x∈F.ts,x.next=(ch x.id).headD 0
  sets : ∀x∈F.ts,∀k∈ch x.id,∀r,recOf F.S.l k=some r→SOk F x.id r
  kept:F.kept=(F.ts.map fun x=>kp x.id+((ch x.id).length:Int)).sum
  cap : ∀p,1≤p→p≤F.P→∀l:List Int,l.Nodup→(∀k∈l,placeOf k F.P=p∧vals F k=none∧∃x∈F.ts,∃n∈ch x.id,∃r,recOf F.S.l n=some r∧r.key=k)→(cur F.S p).2.length+l.length≤20
structure FOk (N m:Nat) (ch:Int→List Int) (kp:Int→Int) (F:FS):Prop where
  g:GOk N m F
  t:TOk F
  c:COk ch kp F
theorem room_done {L L':Lg}(h:L'.base=L.base∧L'.blocks=L.blocks∧L'.l=L.l):L'.room=L.room∧L'.last=L.last:=by
  obtain⟨h1,h2,h3⟩:=h
  unfold Lg.room Lg.last
  rw[h1,h2,h3]
  exact⟨rfl,rfl⟩
theorem GOk.to {N m:Nat}{F:FS}{S':PSys}{m':Nat}(h:GOk N m F)(hp:PgOk N F.P S')(ht:PgTo F.P F.S S')(hf:FuseOk S'.d)(hl:LooseLe S'.d m')(ho:S'.l.Ok):GOk N m' { F with S:=S' }:=by
  obtain⟨l1,l2,l3,l4,l5⟩:=ht.ll
  obtain⟨r1,r2⟩:=room_done (L:=F.S.l) (L':=S'.l) ⟨l2,l3,l1⟩
  refine⟨hp,?_,ho,hf,hl,fun p p1 p2 => ?_,?_,h.p32,?_⟩
  · show S'.l.first+S'.l.blocks≤N
    rw[l5,l3];exact h.fit
  · show (cur S' p).1≤S'.l.last
    rw[ht.cur p p1 p2,r2];exact h.lsn p p1 p2
  · show ∀r∈S'.l.l,_
    rw[l1];exact h.six
  · show 0≤F.free∧0≤F.kept∧F.free+F.kept=S'.l.room
    rw[r1];exact h.room
theorem vals_to {F:FS}{S':PSys}(h:1≤F.P)(ht:PgTo F.P F.S S')(k:Int):vals { F with S:=S' } k=vals F k:=by
  obtain⟨h1,h2⟩:=placeOf_in k h
  unfold vals
  show val (cur S' (placeOf k F.P)).2 k=_
  rw[ht.cur _ h1 h2]
theorem COk.to {ch:Int→List Int}{kp:Int→Int}{F:FS}{S':PSys}(hP:1≤F.P)(h:COk ch kp F)(ht:PgTo F.P F.S S'):COk ch kp { F with S:=S' }:=by
  obtain⟨l1,l2,l3,l4,l5⟩:=ht.ll
  obtain⟨r1,r2⟩:=room_done (L:=F.S.l) (L':=S'.l) ⟨l2,l3,l1⟩
  have hrec : ∀n,recOf S'.l n=recOf F.S.l n:=fun n=>recOf_done l2 l1 n
  refine⟨fun x hx => ?_,h.next,fun x hx k hk r hr => ?_,h.kept,fun p p1 p2 l hn hl => ?_⟩
  · obtain⟨a,b,c⟩:=h.last x hx
    refine⟨a.keep fun m r hr=>by show recOf S'.l m=_;rw[hrec];exact hr,?_,c⟩
    show x.last≤S'.l.last
    rw[r2];exact b
  · have hr':recOf F.S.l k=some r:=by rw[←hrec];exact hr
    obtain⟨a,b,c⟩:=h.sets x hx k hk r hr'
    exact⟨a,b,c⟩
  · show (cur S' p).2.length+l.length≤20
    rw[ht.cur p p1 p2]
    refine h.cap p p1 p2 l hn fun k hk => ?_
    obtain⟨a,b,x,hx,n,hn,r,hr,e⟩:=hl k hk
    exact⟨a,by rw[←vals_to hP ht];exact b,x,hx,n,hn,r,by rw[←hrec];exact hr,e⟩
theorem FOk.to {N m:Nat}{ch:Int→List Int}{kp:Int→Int}{F:FS}{S':PSys}{m':Nat}(h:FOk N m ch kp F)(hp:PgOk N F.P S')(ht:PgTo F.P F.S S')(hf:FuseOk S'.d)(hl:LooseLe S'.d m')(ho:S'.l.Ok):FOk N m' ch kp { F with S:=S' }:=
  ⟨h.g.to hp ht hf hl ho,⟨h.t.rise,h.t.ids,h.t.most,h.t.ofs,h.t.inj,h.t.on⟩,h.c.to h.g.pg.pages ht⟩
def addRec (S:PSys)(r:RecV):PSys:={ S with l:={ S.l with l:=S.l.l++[r] } }
theorem addRec_last (S:PSys)(r:RecV):(addRec S r).l.last=S.l.last+1:=by
  unfold addRec Lg.last
  simp
  omega
theorem addRec_room (S:PSys)(r:RecV)(h:1≤S.l.room):(addRec S r).l.room=S.l.room - 1:=by
  have h2:=addRec_last S r
  unfold Lg.room at h ⊢
  rw[h2]
  show max (min (S.l.blocks*6 - ((S.l.l++[r]).length:Nat)) _) 0=_
  rw[List.length_append]
  simp
  omega
theorem addRec_rec {S:PSys}{r q:RecV}{n:Int}(h:recOf S.l n=some q):recOf (addRec S r).l n=some q:=recOf_old (L:=S.l) (q:=r) rfl rfl h
theorem addRec_new (S:PSys)(r:RecV):recOf (addRec S r).l (S.l.last+1)=some r:=recOf_new (L:=S.l) rfl rfl
theorem addRec_ok {S:PSys}{r:RecV}(h:S.l.Ok)(hr:recOk r=true)(hm:1≤S.l.room):(addRec S r).l.Ok:=by
  have hl:=addRec_last S r
  refine⟨h.first,h.blocks,h.base,h.epoch,?_,?_,?_,fun q hq => ?_⟩
  · show ((S.l.l++[r]).length:Int)≤_
    rw[List.length_append]
    unfold Lg.room at hm
    simp
    show (S.l.l.length:Int)+1≤S.l.blocks*6
    omega
  · have:(addRec S r).l.base+((addRec S r).l.l.length:Nat)=S.l.last+1:=by rw[←hl];rfl
    rw[this]
    unfold Lg.room at hm
    omega
  · have:=h.done
    show S.l.done≤(S.l.l++[r]).length
    rw[List.length_append]
    omega
  · rcases List.mem_append.1 hq with hq | hq
    · exact h.recs q hq
    · rw[List.mem_singleton] at hq;rw[hq];exact hr
theorem GOk.rec_ {N m:Nat}{F:FS}{r:RecV}{fr kp:Int}(h:GOk N m F)(hr:recOk r=true)(h6:is64 r.old∧is64 r.new)(hm:1≤F.S.l.room)(h1:0≤fr)(h2:0≤kp)(h3:fr+kp=F.S.l.room - 1) :
    GOk N m { F with S:=addRec F.S r,free:=fr,kept:=kp }:=by
  obtain⟨_,_,_,p4⟩:=pg_append h.pg hr hm h.fit
  refine⟨p4,h.fit,addRec_ok h.lok hr hm,h.fuse,h.loose,fun p p1 p2 => ?_,fun q hq => ?_,h.p32,h1,h2,?_⟩
  · show (cur F.S p).1≤(addRec F.S r).l.last
    rw[addRec_last]
    have:=h.lsn p p1 p2
    omega
  · rcases List.mem_append.1 hq with hq | hq
    · exact h.six q hq
    · rw[List.mem_singleton] at hq;rw[hq];exact h6
  · show fr+kp=(addRec F.S r).l.room
    rw[addRec_room _ _ hm];exact h3
theorem sum_congr {l:List Tx}{f g:Tx→Int}(h : ∀x∈l,f x=g x):(l.map f).sum=(l.map g).sum:=by rw[List.map_congr_left h]
def recBegin (id:Int):RecV:=⟨1,id,0,0,0,0,false,false,0,0⟩
def upd (f:Int→Int)(s v:Int):Int→Int:=fun t=>if t=s then v else f t
def updc (ch:Int→List Int)(id:Int)(l:List Int):Int→List Int:=fun t=>if t=id then l else ch t
def beginF (F:FS)(n:Int):FS:={ F with S:=addRec F.S (recBegin (F.most+1)),ts:=F.ts++[⟨F.most+1,0,F.S.l.last+1,0⟩],most:=F.most+1,free:=F.free - 3,kept:=F.kept+2,of:=upd F.of n (F.most+1) }
theorem recBegin_ok {id:Int}(h1:1≤id)(h2:id≤60000):recOk (recBegin id)=true:=by
  unfold recOk recBegin inB txnMax pageMax prevOk nextOk rkeyOk valsOk
  simp
  omega
theorem begin_ok {N m:Nat}{ch:Int→List Int}{kp:Int→Int}{F:FS}{n:Int}(h:FOk N m ch kp F)(hkp:kp (F.most+1)=2)(h0:0≤n)(h1:n<F.sess)(h2:F.of n=0)(h3:3≤F.free)(h4:F.most<60000):FOk N m (updc ch (F.most+1) []) kp (beginF F n):=by
  obtain⟨hg,ht,hc⟩:=h
  obtain⟨ro1,ro2,ro3⟩:=hg.room
  have hroom:1≤F.S.l.room:=by omega
  have hm0:=ht.most
  have hnew : ∀x∈F.ts,x.id≠F.most+1:=fun x hx=>by have:=(ht.ids x hx).2;omega
  have hlast:=addRec_last F.S (recBegin (F.most+1))
  have hlk:=hg.lok
  have hl0:0≤F.S.l.last:=by have:=hlk.base;unfold Lg.last;omega
  refine⟨?_,⟨?_,fun x hx => ?_,?_,fun s hs => ?_,fun s t e hs => ?_,fun x hx => ?_⟩,⟨fun x hx => ?_,fun x hx => ?_,fun x hx k hk r hr => ?_,?_,fun p p1 p2 l hn hl => ?_⟩⟩
  · have:=hg.rec_ (r:=recBegin (F.most+1)) (fr:=F.free - 3) (kp:=F.kept+2) (recBegin_ok (by omega) (by omega)) (by unfold is64 recBegin;simp) hroom (by omega) (by omega) (by omega)
    exact⟨this.pg,this.fit,this.lok,this.fuse,this.loose,this.lsn,this.six,this.p32,this.room⟩
  · show Rising (kvT (F.ts++[_]))
    unfold kvT Rising
    rw[List.map_append,List.pairwise_append]
    refine⟨ht.rise,List.pairwise_singleton _ _,fun a ha b hb => ?_⟩
    obtain⟨x,hx,rfl⟩:=List.mem_map.1 ha
    simp at hb
    subst hb
    have:=(ht.ids x hx).2
    show x.id<F.most+1
    omega
  · rcases List.mem_append.1 hx with hx | hx
    · have:=ht.ids x hx
      exact⟨this.1,by show x.id≤F.most+1;omega⟩
    · rw[List.mem_singleton] at hx
      subst hx
      exact⟨by show 1≤F.most+1;omega,Int.le_refl _⟩
  · show 0≤F.most+1∧F.most+1≤60000;omega
  · have hmem : ∀id,thas F.ts id=true→thas (beginF F n).ts id=true:=fun id hid=>by
      obtain⟨t,ht2,e⟩:=(thas_iff ht.rise id).1 hid
      refine (thas_iff ?_ id).2 ⟨t,List.mem_append_left _ ht2,e⟩
      show Rising (kvT (F.ts++[_]))
      unfold kvT Rising
      rw[List.map_append,List.pairwise_append]
      refine⟨ht.rise,List.pairwise_singleton _ _,fun a ha b hb => ?_⟩
      obtain⟨x,hx,rfl⟩:=List.mem_map.1 ha
      simp at hb
      subst hb
      have:=(ht.ids x hx).2
      show x.id<F.most+1
      omega
    show 0≤s∧s<F.sess∧thas (F.ts++[_]) (upd F.of n (F.most+1) s)=true
    have hs':upd F.of n (F.most+1) s≠0:=hs
    by_cases e:s=n
    · subst e
      refine⟨h0,h1,?_⟩
      unfold upd
      rw[if_pos rfl]
      unfold thas
      rw[has_iff _ _ ?_]
      · exact⟨(F.most+1,0),List.mem_map.2 ⟨_,List.mem_append_right _ (List.mem_singleton.2 rfl),rfl⟩,rfl⟩
      · unfold kvT Rising
        rw[List.map_append,List.pairwise_append]
        refine⟨ht.rise,List.pairwise_singleton _ _,fun a ha b hb => ?_⟩
        obtain⟨x,hx,rfl⟩:=List.mem_map.1 ha
        simp at hb
        subst hb
        have:=(ht.ids x hx).2
        show x.id<F.most+1
        omega
    · unfold upd at hs' ⊢
      rw[if_neg e] at hs' ⊢
      obtain⟨a,b,c⟩:=ht.ofs s hs'
      exact⟨a,b,hmem _ c⟩
  · have e':upd F.of n (F.most+1) s=upd F.of n (F.most+1) t:=e
    have hs':upd F.of n (F.most+1) s≠0:=hs
    unfold upd at e' hs'
    have hno : ∀u,F.of u≠F.most+1:=fun u hu=>by
      have h5:F.of u≠0:=by omega
      obtain⟨_,_,c⟩:=ht.ofs u h5
      obtain⟨x,hx,e2⟩:=(thas_iff ht.rise _).1 c
      exact hnew x hx (e2.trans hu)
    by_cases e1:s=n
    · by_cases e2:t=n
      · omega
      · rw[if_pos e1,if_neg e2] at e'
        exact absurd e'.symm (hno t)
    · by_cases e2:t=n
      · rw[if_neg e1,if_pos e2] at e'
        exact absurd e' (hno s)
      · rw[if_neg e1,if_neg e2] at e'
        rw[if_neg e1] at hs'
        exact ht.inj s t e' hs'
  · show ∃s,upd F.of n (F.most+1) s=x.id
    rcases List.mem_append.1 hx with hx | hx
    · obtain⟨s,hs⟩:=ht.on x hx
      refine⟨s,?_⟩
      unfold upd
      rw[if_neg,hs]
      intro e
      rw[e,h2] at hs
      have:=(ht.ids x hx).1
      omega
    · rw[List.mem_singleton] at hx
      subst hx
      exact⟨n,by unfold upd;rw[if_pos rfl]⟩
  · show Chain (addRec F.S _).l x.last (updc ch (F.most+1) [] x.id)∧x.last≤(addRec F.S _).l.last∧0≤x.last
    rw[hlast]
    rcases List.mem_append.1 hx with hx | hx
    · obtain⟨a,b,c⟩:=hc.last x hx
      unfold updc
      rw[if_neg (hnew x hx)]
      exact⟨a.keep fun _ _=>addRec_rec,by omega,c⟩
    · rw[List.mem_singleton] at hx
      subst hx
      unfold updc
      rw[if_pos rfl]
      exact⟨.nil (.begin (by show F.S.l.last+1≠0;omega) (addRec_new F.S _) rfl),Int.le_refl _,by show 0≤F.S.l.last+1;omega⟩
  · show x.next=(updc ch (F.most+1) [] x.id).headD 0
    rcases List.mem_append.1 hx with hx | hx
    · unfold updc
      rw[if_neg (hnew x hx)]
      exact hc.next x hx
    · rw[List.mem_singleton] at hx
      subst hx
      unfold updc
      rw[if_pos rfl]
      rfl
  · have hk':k∈updc ch (F.most+1) [] x.id:=hk
    rcases List.mem_append.1 hx with hx | hx
    · unfold updc at hk'
      rw[if_neg (hnew x hx)] at hk'
      obtain⟨_,q,hq,_⟩:=(hc.last x hx).1.at_ k hk'
      have:recOf (addRec F.S (recBegin (F.most+1))).l k=some q:=addRec_rec hq
      have hr':recOf (addRec F.S (recBegin (F.most+1))).l k=some r:=hr
      rw[this] at hr'
      cases hr'
      obtain⟨a,b,lk,c1,c2,c3,c4⟩:=hc.sets x hx k hk' r hq
      refine⟨a,b,lk,c1,c2,c3,?_⟩
      show upd F.of n (F.most+1) lk.s=x.id
      unfold upd
      rw[if_neg,c4]
      intro e
      rw[e,h2] at c4
      have:=(ht.ids x hx).1
      omega
    · rw[List.mem_singleton] at hx
      subst hx
      unfold updc at hk'
      rw[if_pos rfl] at hk'
      cases hk'
  · show F.kept+2=((F.ts++[_]).map _).sum
    rw[List.map_append,List.sum_append,hc.kept]
    have:(F.ts.map fun x=>kp x.id+((ch x.id).length:Int)).sum=(F.ts.map fun x=>kp x.id+((updc ch (F.most+1) [] x.id).length:Int)).sum:=sum_congr fun x hx=>by
      unfold updc
      rw[if_neg (hnew x hx)]
    rw[this]
    simp[updc,hkp]
  · show (cur F.S p).2.length+l.length≤20
    refine hc.cap p p1 p2 l hn fun k hk => ?_
    obtain⟨a,b,x,hx,j,hj,r,hr,e⟩:=hl k hk
    rcases List.mem_append.1 hx with hx | hx
    · have hj':j∈updc ch (F.most+1) [] x.id:=hj
      unfold updc at hj'
      rw[if_neg (hnew x hx)] at hj'
      obtain⟨_,q,hq,_⟩:=(hc.last x hx).1.at_ j hj'
      have:recOf (addRec F.S (recBegin (F.most+1))).l j=some q:=addRec_rec hq
      have hr':recOf (addRec F.S (recBegin (F.most+1))).l j=some r:=hr
      rw[this] at hr'
      cases hr'
      exact⟨a,b,x,hx,j,hj',r,hq,e⟩
    · rw[List.mem_singleton] at hx
      subst hx
      have hj':j∈updc ch (F.most+1) [] (F.most+1):=hj
      unfold updc at hj'
      rw[if_pos rfl] at hj'
      cases hj'
end Go.Proofs.YtaplpeoikebedaaGreatDoor.StoreF
