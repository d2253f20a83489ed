/- Joined texts: ChangeU, BackD, BackL, EndT, LockF, FwdL, BackM, BackW. No condition but what each says. -/
import Derived.Test.YtaplpeoikebedaaGreatDoorY26
import Derived.Test.YtaplpeoikebedaaGreatDoorY31
import Derived.Test.YtaplpeoikebedaaGreatDoorY22
import Derived.Test.YtaplpeoikebedaaGreatDoorY28
import Derived.Test.YtaplpeoikebedaaGreatDoorY25
import Derived.Test.YtaplpeoikebedaaGreatDoorY12
import Derived.Test.YtaplpeoikebedaaGreatDoorY29
import Derived.Deep.RegionLaw
import Derived.Deep.DeepCutAuto
set_option maxHeartbeats 8000000
set_option maxRecDepth 100000
set_option linter.unusedVariables false
set_option linter.unusedSimpArgs false
namespace Go.Proofs.YtaplpeoikebedaaGreatDoor.ChangeU
open Go.RowKit YtaplpeoikebedaaGreatDoorW.PrintWords YtaplpeoikebedaaGreatDoorW.PrintLast YtaplpeoikebedaaGreatDoorW.PrintMore
open See Mem Page RecD Rec Wal WalR StoreD
attribute [local go_sem] max2_imax min2_imin max_two min_two
theorem undo_calls (r:RecV)(lsn last next:Int)(w:World)(hk:r.kind=2) :
    Calls Tryz.prog 197 #[recV r,.int .i64 lsn,.int .i64 last,.int .i64 next] w fun e w'=>e = .returned (.tuple #[recV ⟨3,r.txn,r.page,last,next,r.key,true,r.had,lsn,r.old⟩,.bool true])∧Below w.heap.size w w':=by
  obtain⟨kd,tx,pg,pv,nx,key,had,has_,old,new⟩:=r
  simp only at hk
  subst hk
  simp only[recV,recA]
  go_enter Tryz.func197,Tryz.ntmps197
  go_wp2_with fail
  refine bodyPost_ret (v:=.tuple #[recV ⟨3,tx,pg,last,next,key,true,had,lsn,old⟩,.bool true]) ?_ ?_ ?_
  case refine_2=>rfl
  case refine_3=>exact⟨rfl,by repeat (first | exact Below.refl _ _ | apply below_drew1 | apply below_alloc)⟩
  simp[results,Tryz.results197,go_sem,recV,recA]
end Go.Proofs.YtaplpeoikebedaaGreatDoor.ChangeU
namespace Go.Proofs.YtaplpeoikebedaaGreatDoor.BackD
open Go.RowKit Go.Maps YtaplpeoikebedaaGreatDoorW.PrintWords YtaplpeoikebedaaGreatDoorW.PrintLast YtaplpeoikebedaaGreatDoorW.PrintMore
open See Mem Page Disk DiskN DiskW RecD Rec Dirty Wal WalF WalR PoolG PoolS SysD SysM FlushG Pager StoreD PageM StoreF StoreG StoreH StoreI StoreJ TransT LockT LockU SpaceT WaitT ChainT ChangeT ChangeU FwdM FwdP FwdC FwdT FwdB FwdS
attribute [local go_sem] max2_imax min2_imin max_two min_two
def backF (F:FS)(id k nx:Int)(r:RecV)(hint:Int):FS:=undoF { F with S:=(getS F.S r.page hint).1 } id k nx r
structure BackIn (F:FS) (id k nx:Int) (r:RecV) (hint:Int) (S':PSys):Prop where
  get:getS F.S r.page hint=(S',cur F.S r.page,.fine)
  n0:Norm F.S.l (tget F.ts id).next k
  rec_:recOf F.S.l k=some r
  n1:Norm S'.l r.prev nx
  kind:r.kind=2
  rise:Rising (cur F.S r.page).2
  lsn:(cur F.S r.page).1<S'.l.last+1
  rok:recOk (recClr (tget F.ts id) r k nx)=true
  room:r.had=true→has (cur F.S r.page).2 r.key=true∨(cur F.S r.page).2.length<20
  r1:1≤S'.l.room
  kept:1≤F.kept∧F.kept≤1073741824
  few:S'.t.length≤70000
  has_:thas F.ts id=true
  ris2:Rising (kvT F.ts)
  id_:(tget F.ts id).id=id
  lse:LooseLe F.S.d 40000
  set_:setS (addRec S' (recClr (tget F.ts id) r k nx)) r.page (S'.l.last+1) (redoE (cur F.S r.page).2 (recClr (tget F.ts id) r k nx))=((backF F id k nx r hint).S,none)
  last:S'.l.last+1≤1073741824∧0≤S'.l.last
theorem back_in {N m:Nat}{ch:Int→List Int}{kp:Int→Int}{F:FS}{id k:Int}{ks:List Int}{r:RecV}(hint:Int)(h:FOk N m ch kp F)(hid:thas F.ts id=true)(hch:ch id=k :: ks)(hrk:recOf F.S.l k=some r)(hkp : ∀x,0≤kp x)(hm:m≤39000)(hfr:F.S.frames≤8) :
    ∃S',BackIn F id k (ks.headD 0) r hint S'∧FOk N (m+1) (updc ch id ks) kp (backF F id k (ks.headD 0) r hint)∧∀j,vals (backF F id k (ks.headD 0) r hint) j=if j=r.key then (if r.had then some r.old else none) else vals F j:=by
  obtain⟨hx,hxid⟩:=tget_mem hid
  obtain⟨la,lb,lc⟩:=h.c.last _ hx
  have hnx:=h.c.next _ hx
  rw[hxid,hch] at la hnx
  have hkn:=la.at_ k List.mem_cons_self
  have hrk2:r.kind=2:=by
    obtain⟨_,q,hq,hq2⟩:=hkn
    rw[hrk] at hq
    cases hq
    exact hq2
  obtain⟨st,sp,sh⟩:=h.c.sets _ hx k (by rw[hxid,hch];exact List.mem_cons_self) r hrk
  obtain⟨p1,p2⟩:=placeOf_in r.key h.g.pg.pages
  rw[←sp] at p1 p2
  obtain⟨S',e1,e2,e3,e4⟩:=get_ok h hint p1 p2
  have hcur:=e3.cur _ p1 p2
  obtain⟨l1,l2,l3,l4,l5⟩:=e3.ll
  obtain⟨r1,r2⟩:=room_done (L:=F.S.l) (L':=S'.l) ⟨l2,l3,l1⟩
  have hrec : ∀n,recOf S'.l n=recOf F.S.l n:=fun n=>recOf_done l2 l1 n
  have hu:=undo_ok (F:={ F with S:=S' }) (f:=⟨r.page,(cur F.S r.page).1,(cur F.S r.page).2⟩) e2 hid hch (by show recOf S'.l k=_;rw[hrec];exact hrk) e4 hkp
  have hc1:cur ({ F with S:=S' }:FS).S r.page=cur F.S r.page:=hcur
  rw[hc1] at hu
  obtain⟨u1,u2,u3,u4,u5,u6,u7⟩:=hu
  have hb:backF F id k (ks.headD 0) r hint=undoF { F with S:=S' } id k (ks.headD 0) r:=by unfold backF;rw[e1]
  have hrise:Rising (cur F.S r.page).2:=PageV.rise (h.g.pg.curV p1 p2)
  have hro:=h.g.room
  have hroomB:F.S.l.room≤1073741824:=by unfold Lg.room;have:=h.g.lok.base;unfold Lg.last;omega
  have hrest:Chain F.S.l r.prev ks:=by
    cases la with
    | cons h0 h1 h2 h3 h4=>
      rw[hrk] at h2
      cases h2
      exact h4
  have hl:=e2.g.lok
  refine⟨S',⟨e1,?_,hrk,(hrest.norm).keep fun m q hq=>by rw[hrec];exact hq,hrk2,hrise,?_,u2,fun hh => ?_,u4,⟨u5,by omega⟩,?_,hid,h.t.rise,hxid,h.g.loose.mono (by omega),by rw[hb];exact u1,?_⟩,by rw[hb];exact u6,fun j => ?_⟩
  · rw[hnx];exact la.norm.head
  · have:=h.g.lsn _ p1 p2
    rw[r2];omega
  · have h3:=u3
    unfold redoE at h3
    rw[show (recClr (tget ({ F with S:=S' }:FS).ts id) r k (ks.headD 0)).has=r.had from rfl,if_pos hh,len_put hrise,show (recClr (tget ({ F with S:=S' }:FS).ts id) r k (ks.headD 0)).key=r.key from rfl,←has_val hrise] at h3
    cases hq:has (cur F.S r.page).2 r.key with
    | true=>exact .inl rfl
    | false=>
      rw[hq] at h3
      simp at h3
      exact .inr (by omega)
  · have h1:=tab_few e2.g.pg
    have h2:S'.frames=F.S.frames:=e3.frames
    have h3:({ F with S:=S' }:FS).S.t.length=S'.t.length:=rfl
    have h4:({ F with S:=S' }:FS).S.frames=S'.frames:=rfl
    omega
  · have h0:1≤S'.l.room:=u4
    unfold Lg.room at h0
    have h2:=hl.base
    have h3:0≤S'.l.base:=h2.1
    refine⟨by omega,?_⟩
    unfold Lg.last
    omega
  · rw[hb,u7 j]
    split
    · rfl
    · exact vals_to h.g.pg.pages e3 j
theorem backF_eq {F:FS}{id k nx hint:Int}{r:RecV}{S':PSys}{c:Int×List (Int×Int)}{q:Flt}(h:getS F.S r.page hint=(S',c,q)):backF F id k nx r hint={ F with S:=(backF F id k nx r hint).S,kept:=F.kept - 1,ts:=tnote F.ts id (S'.l.last+1) nx }:=by
  unfold backF undoF
  rw[h]
theorem drewH (V:World):V.drew.heap=V.heap:=rfl
theorem allocH (V:World)(o:Obj):(V.alloc o).heap=V.heap.push o:=rfl
theorem LB.fin {M:Nat→Prop}{sp lp pp dp qp mp:Nat}{blocks frames:Int}{F F':FS}{w V0 w3 w4 w5:World}{R:Nat→Prop}(h:LB M sp lp pp dp qp mp blocks frames F w V0 R w3)(hb:Below w3.heap.size w3 w4)(hp:FwPost (Cut R w3.heap.size) sp lp pp dp qp mp blocks frames F' w4 w5):FwPost M sp lp pp dp qp mp blocks frames F' w w5:=
  (h.step ((hp.wide (fun k hk=>hk.1)).back hb)).post
end Go.Proofs.YtaplpeoikebedaaGreatDoor.BackD
namespace Go.Proofs.YtaplpeoikebedaaGreatDoor.BackL
open Go.RowKit See Mem RecD Dirty Wal WalF PoolG PoolS SysD SysM FlushG Pager StoreD PageM StoreF StoreG StoreH StoreI StoreJ BackD
def undoV (L:Lg)(k:Int)(f:Int→Option Int):Int→Option Int:=
  match recOf L k with
  | some r=>fun j=>if j=r.key then (if r.had then some r.old else none) else f j
  | none=>f
def rewV (L:Lg):List Int→(Int→Option Int)→Int→Option Int
  | [],f=>f
  | k :: ks,f=>rewV L ks (undoV L k f)
theorem rewV_append (L:Lg) : ∀(p q:List Int) (f:Int→Option Int),rewV L (p++q) f=rewV L q (rewV L p f)
  | [],_,_=>rfl
  | k :: p,q,f=>rewV_append L p q (undoV L k f)
theorem rewV_keep {L L':Lg}(hk : ∀m r,recOf L m=some r→recOf L' m=some r) : ∀(p:List Int) (f:Int→Option Int),(∀k∈p,∃r,recOf L k=some r)→rewV L' p f=rewV L p f
  | [],_,_=>rfl
  | k :: p,f,h=>by
    obtain⟨r,hr⟩:=h k List.mem_cons_self
    have e:undoV L' k f=undoV L k f:=by unfold undoV;rw[hr,hk k r hr]
    show rewV L' p (undoV L' k f)=rewV L p (undoV L k f)
    rw[e]
    exact rewV_keep hk p _ fun j hj=>h j (List.mem_cons_of_mem _ hj)
theorem setS_l (S:PSys)(n lsn:Int)(es:List (Int×Int)):(setS S n lsn es).1.l=S.l∧(setS S n lsn es).1.frames=S.frames:=by
  unfold setS
  split
  · exact⟨rfl,rfl⟩
  · split<;>exact⟨rfl,rfl⟩
theorem chg_l (S:PSys)(r:RecV):(chgS S r).l=(addRec S r).l∧(chgS S r).frames=S.frames:=setS_l _ _ _ _
theorem Norm.le {L:Lg}{n k:Int}(h:Norm L n k):k=0∨k≤n:=by
  induction h with
  | zero=>exact .inl rfl
  | set=>exact .inr (Int.le_refl _)
  | begin=>exact .inl rfl
  | clr _ _ _ h3 _ ih=>exact ih.elim .inl fun h=>.inr (by omega)
  | end_ _ _ _ h3 _ ih=>exact ih.elim .inl fun h=>.inr (by omega)
theorem Chain.le {L:Lg}{n:Int}{ks:List Int}(h:Chain L n ks) : ∀k∈ks,k≤n:=by
  induction h with
  | nil=>intro k hk;cases hk
  | cons h0 h1 h2 h3 _ ih=>
    have hn:=(Norm.le h0).resolve_left h1
    intro j hj
    rcases List.mem_cons.1 hj with rfl | hj
    · exact hn
    · have:=ih j hj;omega
theorem Chain.down {L:Lg}{n:Int}{ks:List Int}(h:Chain L n ks):ks.Pairwise (fun a b=>b<a):=by
  induction h with
  | nil=>exact List.Pairwise.nil
  | cons h0 h1 h2 h3 h4 ih=>
    refine List.pairwise_cons.2 ⟨fun j hj => ?_,ih⟩
    have:=Chain.le h4 j hj
    omega
theorem Chain.stop {L:Lg}{n:Int}{p q:List Int}(h:Chain L n (p++q)) : ∀k∈p,k≠q.headD 0∧k≠0:=by
  intro k hk
  have h0:=(h.at_ k (List.mem_append_left _ hk)).1
  refine⟨?_,h0⟩
  cases q with
  | nil=>exact h0
  | cons j q=>
    have:=(List.pairwise_append.1 (Chain.down h)).2.2 k hk j List.mem_cons_self
    show k≠j
    omega
structure UndoR (N m:Nat) (ch:Int→List Int) (kp:Int→Int) (F:FS) (id:Int) (pre rest:List Int) (F':FS):Prop where
  ok:FOk N (m+pre.length) (updc ch id rest) kp F'
  vals_ : ∀j,vals F' j=rewV F.S.l pre (vals F) j
  last:F'.S.l.last=F.S.l.last+(pre.length:Int)
  old : ∀n r,recOf F.S.l n=some r→recOf F'.S.l n=some r
  same:F'.P=F.P∧F'.sess=F.sess∧F'.ks=F.ks∧F'.most=F.most∧F'.of=F.of∧F'.free=F.free∧F'.S.frames=F.S.frames
  has_:thas F'.ts id=true
  ids:idsT F'.ts=idsT F.ts
theorem UndoR.refl {N m:Nat}{ch:Int→List Int}{kp:Int→Int}{F:FS}{id:Int}(h:FOk N m ch kp F)(hid:thas F.ts id=true):UndoR N m ch kp F id [] (ch id) F:=by
  refine⟨?_,fun j=>rfl,by simp,fun n r h=>h,⟨rfl,rfl,rfl,rfl,rfl,rfl,rfl⟩,hid,rfl⟩
  have e:updc ch id (ch id)=ch:=by funext t;unfold updc;split<;>simp_all
  rw[e];exact h
theorem UndoR.step {N m:Nat}{ch:Int→List Int}{kp:Int→Int}{F F':FS}{id k:Int}{pre ks:List Int}(hint:Int)(h:UndoR N m ch kp F id pre (k :: ks) F')(hk : ∃r,recOf F.S.l k=some r)(hkp : ∀x,0≤kp x)(hm:m+pre.length≤39000)(hfr:F.S.frames≤8) :
    ∃S' r,BackIn F' id k (ks.headD 0) r hint S'∧UndoR N m ch kp F id (pre++[k]) ks (backF F' id k (ks.headD 0) r hint):=by
  obtain⟨r,hr⟩:=hk
  have hch:updc ch id (k :: ks) id=k :: ks:=by unfold updc;rw[if_pos rfl]
  obtain⟨s1,s2,s3,s4,s5,s6,s7⟩:=h.same
  obtain⟨S',b1,b2,b3⟩:=back_in hint h.ok h.has_ hch (h.old k r hr) hkp hm (by rw[s7];exact hfr)
  have e1:updc (updc ch id (k :: ks)) id ks=updc ch id ks:=by funext t;unfold updc;split<;>rfl
  rw[e1] at b2
  obtain⟨p1,p2⟩:=placeOf_in r.key h.ok.g.pg.pages
  obtain⟨hx,hxid⟩:=tget_mem h.has_
  have hsp:=(h.ok.c.sets _ hx k (by rw[hxid,hch];exact List.mem_cons_self) r (h.old k r hr)).page
  rw[←hsp] at p1 p2
  obtain⟨S2,e2,e3,e4,e5⟩:=get_ok h.ok hint p1 p2
  obtain⟨l1,l2,l3,l4,l5⟩:=e4.ll
  have hS:backF F' id k (ks.headD 0) r hint=undoF { F' with S:=S2 } id k (ks.headD 0) r:=by unfold backF;rw[e2]
  have hfr2:S2.frames=F'.S.frames:=e4.frames
  have hro:=room_done (L:=F'.S.l) (L':=S2.l) ⟨l2,l3,l1⟩
  have hL:=chg_l S2 (recClr (tget ({ F' with S:=S2 }:FS).ts id) r k (ks.headD 0))
  have hB:(backF F' id k (ks.headD 0) r hint).S.l=(addRec S2 (recClr (tget ({ F' with S:=S2 }:FS).ts id) r k (ks.headD 0))).l:=by rw[hS];exact hL.1
  refine⟨S',r,b1,⟨?_,fun j => ?_,?_,fun n q hq => ?_,?_,?_,?_⟩⟩
  · have:m+(pre++[k]).length=m+pre.length+1:=by simp;omega
    rw[this];exact b2
  · rw[b3 j,rewV_append]
    show _=undoV F.S.l k (rewV F.S.l pre (vals F)) j
    unfold undoV
    rw[hr]
    simp only[h.vals_ j]
  · rw[hB,addRec_last,hro.2,h.last]
    simp
    omega
  · rw[hB]
    refine addRec_rec ?_
    rw[recOf_done l2 l1]
    exact h.old n q hq
  · rw[hS]
    exact⟨s1,s2,s3,s4,s5,s6,by rw[←s7,←hfr2];exact hL.2⟩
  · rw[hS]
    show thas (tnote F'.ts id _ _) id=true
    rw[thas_ids (tnote_rise h.ok.t.rise),ids_tnote,←thas_ids h.ok.t.rise]
    exact h.has_
  · rw[hS]
    show idsT (tnote F'.ts id _ _)=_
    rw[ids_tnote]
    exact h.ids
end Go.Proofs.YtaplpeoikebedaaGreatDoor.BackL
namespace Go.Proofs.YtaplpeoikebedaaGreatDoor.EndT
open Go.RowKit Go.Maps YtaplpeoikebedaaGreatDoorW.PrintWords YtaplpeoikebedaaGreatDoorW.PrintLast YtaplpeoikebedaaGreatDoorW.PrintMore
open See Mem Page Disk DiskN DiskW RecD Rec Dirty Wal WalF SysD SysM FlushG Pager StoreD PageM StoreF StoreG StoreH StoreI StoreJ TransT LockT LockU SpaceT WaitT FwdM FwdP FwdC FwdT FwdB FwdS
attribute [local go_sem] max2_imax min2_imin max_two min_two
def addK (F:FS)(r:RecV):FS:={ F with S:=addRec F.S r,kept:=F.kept - 1 }
theorem end_calls (a:Nat→Addr)(M:Nat→Prop)(sp lp pp dp qp mp:Nat)(blocks frames:Int)(F:FS)(id:Int)(w:World)(h:FwM M w sp lp pp dp qp mp blocks frames F)(hs:SentsAll w a)(hO:OutAll M a)(hid:thas F.ts id=true)(hr:Rising (kvT F.ts))(htid:(tget F.ts id).id=id)(hk:1≤F.kept∧F.kept≤1073741824)(hrec:recOk (recMark (tget F.ts id) 6)=true)(hroom:1≤F.S.l.room) :
    Calls Tryz.prog 136 #[.pointer (some ⟨lp,0,none⟩),.pointer (some ⟨sp,8,none⟩),.pointer (some ⟨qp,0,none⟩),txV (tget F.ts id)] w fun e w'=>e = .returned .nilIface∧FwPost M sp lp pp dp qp mp blocks frames { addK F (recMark (tget F.ts id) 6) with ts:=tdrop F.ts id } w w':=by
  have HF:=Aside0.mk h
  have HS:=Aside0.mk hs
  have HO:=Aside0.mk hO
  have HID:=Aside0.mk (And.intro hid hr)
  have HKB:=Aside0.mk hk
  have HREC:=Aside0.mk (append_room hrec hroom)
  have hd1:decide (F.kept<1)=false:=decide_eq_false (by omega)
  obtain⟨x,hxx⟩ : ∃x,tget F.ts id=x:=⟨_,rfl⟩
  rw[hxx] at HREC htid ⊢
  obtain⟨xi,xs,xl,xn⟩:=x
  simp only at htid
  subst htid
  simp only[txV]
  clear h hs hO hid hr hk hrec hroom hxx
  go_enter Tryz.func136,Tryz.ntmps136
  go_upto_region 1 with fail
  obtain⟨W,hW⟩ : ∃W,w.alloc (.cells #[.int .i64 xi,.int .i64 xs,.int .i64 xl,.int .i64 xn] 102)=W:=⟨_,rfl⟩
  have HXB:=Aside0.mk (show W.heap[w.heap.size]? = some (.cells #[.int .i64 xi,.int .i64 xs,.int .i64 xl,.int .i64 xn] 102 (0,0)) by rw[←hW];exact heap_alloc_new _ _)
  have HL0:=Aside0.mk (LB.start HF.out (show Below w.heap.size w W by rw[←hW];exact below_alloc (Below.refl _ _) _))
  rw[hW]
  clear hW
  obtain⟨x0,x1,x2,x3,_,_,_,_⟩:=tx_cells HXB.out
  have hxl:=heap_lt HXB.out
  go_wp2_with fail
  refine (kept_space qp F.free F.kept _ HL0.out.f.room).mono ?_
  rintro e w' ⟨rfl,rfl⟩
  obtain⟨lv,hlg⟩:=HL0.out.f.sys.log
  have HLG:=Aside0.mk hlg
  have HSS:=Aside0.mk (HL0.out.sents HS.out HO.out)
  clear hlg
  go_wp2_with fail
  refine (append_log a _ lp dp lv F.S.l (recMark ⟨xi,xs,xl,xn⟩ 6) _ (HSS.out.1.k _ (by decide)) HLG.out).mono ?_
  rintro e w3 ⟨rfl,v3,hl3,hf3⟩
  rw[HREC.out.2.2] at hl3
  rw[HREC.out.1,HREC.out.2.1,show errv a none = .nilIface from rfl]
  have HL1:=Aside0.mk (HL0.out.step (FwM.lg HL0.out.f ⟨v3,hl3⟩ hf3))
  clear hl3 hf3 x0 x1 x2 x3 hxl
  go_wp2_with fail
  refine (spend_space _ qp F.free F.kept 1 _ HL1.out.f.room HL1.out.f.low.2.1 (by omega) HKB.out.1 HKB.out.2).mono ?_
  rintro e w4 ⟨rfl,hs4,hf4⟩
  have HL2:=Aside0.mk (HL1.out.step (FwM.spc HL1.out.f hs4 hf4))
  clear hs4 hf4
  obtain⟨cs,tv,htx,hput⟩:=FwM.txs HL2.out.f HID.out.2
  have HTX:=Aside0.mk htx
  have HPT:=Aside0.mk hput
  clear htx hput
  obtain⟨x0,x1,x2,x3,_,_,_,_⟩:=tx_cells (HL2.out.at HXB.out (Nat.le_refl _))
  go_wp2_with fail
  refine (tdrop_calls _ sp 8 118 cs tv F.ts F.most xi _ HTX.out HID.out.1).mono ?_
  rintro e w5 ⟨rfl,hpost⟩
  have HL3:=Aside0.mk (HL2.out.step (HPT.out _ _ _ (Int.le_refl _) hpost))
  clear hpost x0 x1 x2 x3
  go_wp2_with fail
  go_ret
  exact⟨rfl,HL3.out.post⟩
theorem fappend_calls (a:Nat→Addr)(M:Nat→Prop)(sp lp pp dp qp mp:Nat)(blocks frames:Int)(F:FS)(r:RecV)(w:World)(h:FwM M w sp lp pp dp qp mp blocks frames F)(hs:SentsAll w a)(hO:OutAll M a)(hk:1≤F.kept∧F.kept≤1073741824)(hrec:recOk r=true)(hroom:1≤F.S.l.room) :
    Calls Tryz.prog 74 #[.pointer (some ⟨sp,0,none⟩),recV r] w fun e w'=>e = .returned (.tuple #[.int .i64 (F.S.l.last+1),.nilIface])∧FwPost M sp lp pp dp qp mp blocks frames (addK F r) w w':=by
  have HF:=Aside0.mk h
  have HS:=Aside0.mk hs
  have HO:=Aside0.mk hO
  have HKB:=Aside0.mk hk
  have HREC:=Aside0.mk (append_room hrec hroom)
  have hspl:sp<w.heap.size:=by obtain⟨kv,tv,b1,_⟩:=h.box;exact heap_lt b1
  obtain⟨W,hW⟩ : ∃W,w.alloc (.cells (recA r) 46)=W:=⟨_,rfl⟩
  have HRB:=Aside0.mk (show W.heap[w.heap.size]? = some (.cells (recA r) 46 (0,0)) by rw[←hW];exact heap_alloc_new _ _)
  have HL0:=Aside0.mk (LB.start HF.out (show Below w.heap.size w W by rw[←hW];exact below_alloc (Below.refl _ _) _))
  have HAP:=Aside0.mk (show ∀(V:World),Below W.heap.size W V→Calls Tryz.prog 63 #[.pointer (some ⟨lp,0,none⟩),recV r] V (fun e w'=>e = .returned (.tuple #[.int .i64 (F.S.l.last+1),.nilIface])∧∃R,LB M sp lp pp dp qp mp blocks frames { F with S:=addRec F.S r } w W R w') from fun V hbl=>by
    have hl:=HL0.out.below hbl
    obtain⟨hs1,hs2⟩:=hl.sents HS.out HO.out
    obtain⟨lv,hlg⟩:=hl.f.sys.log
    have:=append_log a _ lp dp lv F.S.l r V (hs1.k _ (by decide)) hlg
    exact this.mono fun e w' hh=>by
      obtain⟨rfl,v3,hl3,hf3⟩:=hh
      rw[HREC.out.2.2] at hl3
      rw[HREC.out.1,HREC.out.2.1,show errv a none = .nilIface from rfl]
      exact⟨rfl,_,hl.step (FwM.lg hl.f ⟨v3,hl3⟩ hf3)⟩)
  have j4:=HL0.out.f.cells.2.2.1
  obtain⟨y0,y1,y2,y3,y4,y5,y6,y7,y8,y9⟩:=ChangeT.rec_cells HRB.out
  have hlW:=heap_lt HRB.out
  have HWE:=Aside0.mk hW
  clear h hs hO hk hrec hroom hW
  obtain⟨r0,r1,r2,r3,r4,r5,r6,r7,r8,r9⟩:=r
  simp only[recV,recA] at *
  go_enter Tryz.func74,Tryz.ntmps74
  go_upto_region 1 with fail
  rw[HWE.out]
  go_cut [6,7] (fun v6 v7 wx=>v6 = .int .i64 (F.S.l.last+1)∧v7 = .nilIface∧∃R,Aside0 (LB M sp lp pp dp qp mp blocks frames { F with S:=addRec F.S ⟨r0,r1,r2,r3,r4,r5,r6,r7,r8,r9⟩ } w W R wx))
  case first=>
    go_region_law (first
      | (go_simp;go_at_call 63;refine (HAP.out _ (by repeat (first | exact Below.refl _ _ | apply below_drew1))).mono ?_;rintro e w4 ⟨rfl,R4,hl4⟩;have HL4:=Aside0.mk hl4;clear hl4))
    all_goals
      go_wp2_with fail
      go_meet
      exact⟨rfl,rfl,R4,HL4⟩
  case rest=>
    obtain⟨rfl,rfl,R4,HL4⟩:=hcut
    generalize wc=V1 at HL4 ⊢
    clear j4 y0 y1 y2 y3 y4 y5 y6 y7 y8 y9
    have j10:=HL4.out.f.cells.2.2.2.2.2.2.1
    go_wp2_with fail
    refine (spend_space _ qp F.free F.kept 1 _ HL4.out.f.room HL4.out.f.low.2.1 (by omega) HKB.out.1 HKB.out.2).mono ?_
    rintro e w4 ⟨rfl,hs4,hf4⟩
    have HL5:=Aside0.mk (HL4.out.step (FwM.spc HL4.out.f hs4 hf4))
    clear hs4 hf4 j10
    go_wp2_with fail
    exact bodyPost_ret (v:=.tuple #[.int .i64 (F.S.l.last+1),.nilIface]) (by simp[results,Tryz.results74,go_sem]) rfl ⟨rfl,HL5.out.post⟩
end Go.Proofs.YtaplpeoikebedaaGreatDoor.EndT
namespace Go.Proofs.YtaplpeoikebedaaGreatDoor.LockF
open Go.RowKit YtaplpeoikebedaaGreatDoorW.PrintWords YtaplpeoikebedaaGreatDoorW.PrintLast YtaplpeoikebedaaGreatDoorW.PrintMore
open See Mem Clone Go.Proofs.YtaplpeoikebedaaGreatDoor.Cell Page PageR Disk DiskN Pool1 Pool2 Rw Del Num SortI StoreD TransT LockT LockU
attribute [local go_sem] max2_imax min2_imin max_two min_two
theorem cell1 {w:World}{b t:Nat}{v:Value}{fz:Nat×Nat}(h:w.heap[b]? = some (.cells #[v] t fz)):w.cell? ⟨b,0,none⟩=some v:=by simp[World.cell?,h]
theorem lkzero (w:World):(zeroValue 265).run Tryz.prog w = .ok (.agg #[.int .i64 0,.int .i64 0,.int .i64 0]) w:=by kernel_rfl
theorem zeros_lk (n:Nat):(Builtin.zeroCells (Value.agg #[.int .i64 0,.int .i64 0,.int .i64 0]).cells n).toList=List.replicate (n*3) (.int .i64 0):=by
  have hc:(Value.agg #[.int .i64 0,.int .i64 0,.int .i64 0]).cells = #[.int .i64 0,.int .i64 0,.int .i64 0]:=rfl
  rw[hc]
  unfold Builtin.zeroCells
  apply List.ext_getElem
  · simp
  · intro i h1 h2
    simp at h1 h2 ⊢
    have h3:i % 3=0∨i % 3=1∨i % 3=2:=by omega
    rcases h3 with h3 | h3 | h3<;>simp[h3]
theorem clos_free (b1:Nat)(s s1 k1 m1:Int)(w:World)(h1:w.cell? ⟨b1,0,none⟩=some (.int .i64 s)) :
    Calls Tryz.prog 194 #[.agg #[.int .i64 s1,.int .i64 k1,.int .i64 m1],.pointer (some ⟨b1,0,none⟩)] w fun e w'=>e = .returned (.bool (s1 == s))∧Below w.heap.size w w':=by
  have hlt1:b1<w.heap.size:=World.block_lt_of_cell? _ _ h1
  go_enter Tryz.func194,Tryz.ntmps194
  go_wp2_with fail
  go_ret
  exact⟨rfl,by repeat (first | exact Below.refl _ _ | apply pw_below_drewN | apply below_drew1 | apply below_alloc)⟩
end Go.Proofs.YtaplpeoikebedaaGreatDoor.LockF
namespace Go.Proofs.YtaplpeoikebedaaGreatDoor.FwdL
open Go.RowKit Go.Maps YtaplpeoikebedaaGreatDoorW.PrintWords YtaplpeoikebedaaGreatDoorW.PrintLast YtaplpeoikebedaaGreatDoorW.PrintMore
open See Mem Page Disk DiskN DiskW RecD Dirty Wal SysD SysM StoreD StoreF StoreH TransT LockT LockU LockF SpaceT WaitT FwdM FwdP FwdC FwdN EndT
attribute [local go_sem] max2_imax min2_imin max_two min_two
end Go.Proofs.YtaplpeoikebedaaGreatDoor.FwdL
namespace Go.Proofs.YtaplpeoikebedaaGreatDoor.BackM
open Go.RowKit Go.Maps YtaplpeoikebedaaGreatDoorW.PrintWords YtaplpeoikebedaaGreatDoorW.PrintLast YtaplpeoikebedaaGreatDoorW.PrintMore
open See Mem Page Disk Pool2 SysD SysM StoreD StoreF TransT LockT LockU SpaceT WaitT FwdM FwdP FwdC FwdT
attribute [local go_sem] max2_imax min2_imin max_two min_two
structure Sv where
  txn:Int
  l:List Int
structure BSt where
  F:FS
  sv:Int→Sv
  nu:Int
def rS (v:Value):Option (DataW Value×List MemPlace):=some (.held v,[])
def svV (t:Int)(sl:Value):Value:=.agg #[.int .i64 t,sl]
def svz:Value:=svV 0 (.slice none 0 0)
def SvM (w:World)(bm:Nat)(m:Int)(vv:Int→Value):Prop:=
  ∃(n:Nat) (D:DataW Value),w.ownsMap Tryz.prog 3 rS bm n D∧(n:Int)≤m∧∀s:Int,D.atKey (.int .i64 s) (.held svz) = .held (vv s)
theorem SvM.move {w w':World}{bm:Nat}{m:Int}{vv:Int→Value}(h:SvM w bm m vv)(hb:w'.heap[bm]? = w.heap[bm]?):SvM w' bm m vv:=by
  obtain⟨n,D,⟨es,cl,h1,h2⟩,h3⟩:=h
  exact⟨n,D,⟨es,cl,hb.trans h1,h2⟩,h3⟩
theorem SvM.map {w:World}{bm:Nat}{m:Int}{vv:Int→Value}(h:SvM w bm m vv) : ∃es cl,w.heap[bm]? = some (.map es cl):=by
  obtain⟨n,D,⟨es,cl,h1,h2⟩,h3⟩:=h
  exact⟨es,cl,h1⟩
structure BkIn (M:Nat→Prop) (w:World) (bp bm sp lp pp dp qp mp:Nat) (blocks frames:Int) (B:BSt) (R:Nat→Prop) (sl:Int→Value):Prop where
  box:w.heap[bp]? = some (.cells #[.pointer (some ⟨sp,0,none⟩),.map (some bm)] 61 (0,0))
  f:FwM R w sp lp pp dp qp mp blocks frames B.F
  map:SvM w bm B.nu (fun s=>svV (B.sv s).txn (sl s))
  row : ∀s,IS w 0 (sl s) (B.sv s).l
  r : ∀k,R k→M k∧k≠bp∧k≠bm∧∀s,(sl s).ownBlock≠some k
  own : ∀s k,(sl s).ownBlock=some k→M k
  apart : ∀s t k,(sl s).ownBlock=some k→(sl t).ownBlock=some k→s=t
  low:M bp∧M bm
def BkM (M:Nat→Prop)(w:World)(bp bm sp lp pp dp qp mp:Nat)(blocks frames:Int)(B:BSt):Prop := ∃R sl,BkIn M w bp bm sp lp pp dp qp mp blocks frames B R sl
def BkPost (M:Nat→Prop)(bp bm sp lp pp dp qp mp:Nat)(blocks frames:Int)(B:BSt)(w w':World):Prop:=BkM (Gr M w w') w' bp bm sp lp pp dp qp mp blocks frames B∧Kp M w w'
section
variable {M R:Nat→Prop}{bp bm sp lp pp dp qp mp:Nat}{blocks frames:Int}{B:BSt}{sl:Int→Value}{w w1 w2 w':World}
theorem BkIn.rowAt (h:BkIn M w bp bm sp lp pp dp qp mp blocks frames B R sl){s:Int}{k:Nat}(hk:(sl s).ownBlock=some k):k<w.heap.size∧tag w k=3∧¬R k:=by
  obtain⟨_,c,hc⟩:=ow_block (h.row s) hk
  exact⟨heap_lt hc,tag_of hc,fun hr=>(h.r k hr).2.2.2 s hk⟩
theorem BkIn.cells (h:BkIn M w bp bm sp lp pp dp qp mp blocks frames B R sl):w.cell? ⟨bp,0,none⟩=some (.pointer (some ⟨sp,0,none⟩))∧w.cell? ⟨bp,1,none⟩=some (.map (some bm)):=by
  have hb:=h.box
  refine⟨?_,?_⟩<;>simp[World.cell?,hb]
theorem BkIn.mono {M':Nat→Prop}(h:BkIn M w bp bm sp lp pp dp qp mp blocks frames B R sl)(hm : ∀k,M k→M' k):BkIn M' w bp bm sp lp pp dp qp mp blocks frames B R sl:=
  ⟨h.box,h.f,h.map,h.row,fun k hk=>⟨hm k (h.r k hk).1,(h.r k hk).2⟩,fun s k hk=>hm k (h.own s k hk),h.apart,hm _ h.low.1,hm _ h.low.2⟩
theorem BkM.mono {M':Nat→Prop}(h:BkM M w bp bm sp lp pp dp qp mp blocks frames B)(hm : ∀k,M k→M' k):BkM M' w bp bm sp lp pp dp qp mp blocks frames B:=by
  obtain⟨R,sl,h⟩:=h
  exact⟨R,sl,h.mono hm⟩
theorem BkM.below (h:BkM M w bp bm sp lp pp dp qp mp blocks frames B)(hb:Below w.heap.size w w'):BkM M w' bp bm sp lp pp dp qp mp blocks frames B:=by
  obtain⟨R,sl,h⟩:=h
  obtain⟨es,cl,hm⟩:=h.map.map
  exact⟨R,sl,(hb.block _ (heap_lt h.box)).trans h.box,h.f.below hb,h.map.move (hb.block _ (heap_lt hm)),fun s=>(h.row s).below hb,h.r,h.own,h.apart,h.low⟩
theorem BkIn.below (h:BkIn M w bp bm sp lp pp dp qp mp blocks frames B R sl)(hb:Below w.heap.size w w'):BkIn M w' bp bm sp lp pp dp qp mp blocks frames B R sl:=by
  obtain⟨es,cl,hm⟩:=h.map.map
  exact⟨(hb.block _ (heap_lt h.box)).trans h.box,h.f.below hb,h.map.move (hb.block _ (heap_lt hm)),fun s=>(h.row s).below hb,h.r,h.own,h.apart,h.low⟩
theorem BkIn.cutR (h:BkIn M w bp bm sp lp pp dp qp mp blocks frames B R sl):BkIn M w bp bm sp lp pp dp qp mp blocks frames B (Cut R w.heap.size) sl:=
  ⟨h.box,FwM.cut h.f,h.map,h.row,fun k hk=>h.r k hk.1,h.own,h.apart,h.low⟩
theorem BkIn.fwI (h:BkIn M w bp bm sp lp pp dp qp mp blocks frames B R sl){F':FS}(hp:FwPost R sp lp pp dp qp mp blocks frames F' w w'):BkIn (Gr M w w') w' bp bm sp lp pp dp qp mp blocks frames { B with F:=F' } (Gr R w w') sl∧Kp M w w':=by
  obtain⟨f,k⟩:=hp
  obtain⟨es,cl,hm⟩:=h.map.map
  have nb : ¬R bp:=fun hr=>(h.r bp hr).2.1 rfl
  have nm : ¬R bm:=fun hr=>(h.r bm hr).2.2.1 rfl
  refine⟨⟨k.at h.box nb,f,h.map.move (k.block _ (heap_lt hm) nm),fun s=>ow_move (h.row s) fun j hj => ?_,fun j hj => ?_,fun s j hj=>.inl (h.own s j hj),h.apart,.inl h.low.1,.inl h.low.2⟩,k.wide fun j hj=>(h.r j hj).1⟩
  · obtain⟨q1,_,q3⟩:=h.rowAt hj
    exact k.block j q1 q3
  · rcases hj with hj | ⟨q1,q2⟩
    · obtain⟨a,b,c,d⟩:=h.r j hj
      exact⟨.inl a,b,c,d⟩
    · refine⟨.inr ⟨q1,q2⟩,fun e => ?_,fun e => ?_,fun s hs => ?_⟩
      · have:=heap_lt h.box;omega
      · have:=heap_lt hm;omega
      · have:=(h.rowAt hs).1;omega
theorem BkIn.fw (h:BkIn M w bp bm sp lp pp dp qp mp blocks frames B R sl){F':FS}(hp:FwPost R sp lp pp dp qp mp blocks frames F' w w'):BkPost M bp bm sp lp pp dp qp mp blocks frames { B with F:=F' } w w':=⟨⟨_,sl,(h.fwI hp).1⟩,(h.fwI hp).2⟩
theorem BkIn.but (h:BkIn M w bp bm sp lp pp dp qp mp blocks frames B R sl){b:Nat}(hb : ∀k,k≠b→w'.heap[k]? = w.heap[k]?)(hn : ¬R b)(ht:tag w b∉dTags∧tag w b≠169)(h1:b≠bp)(h2:b≠bm)(h3:tag w b≠3):BkIn M w' bp bm sp lp pp dp qp mp blocks frames B R sl:=
  ⟨(hb bp h1.symm).trans h.box,FwM.but h.f hb hn ht,h.map.move (hb bm h2.symm),fun s=>ow_move (h.row s) fun j hj=>hb j fun e=>h3 (by rw[←e];exact (h.rowAt hj).2.1),h.r,h.own,h.apart,h.low⟩
theorem BkPost.refl (h:BkM M w bp bm sp lp pp dp qp mp blocks frames B):BkPost M bp bm sp lp pp dp qp mp blocks frames B w w:=⟨h.mono fun _ h=>.inl h,.refl _ _⟩
theorem BkPost.trans {B':BSt}(h:BkPost M bp bm sp lp pp dp qp mp blocks frames B w w1)(k:BkM (Gr M w w1) w1 bp bm sp lp pp dp qp mp blocks frames B→BkPost (Gr M w w1) bp bm sp lp pp dp qp mp blocks frames B' w1 w2):BkPost M bp bm sp lp pp dp qp mp blocks frames B' w w2:=by
  obtain⟨a,b⟩:=h
  obtain⟨c,d⟩:=k a
  exact⟨BkM.mono c fun j hj=>Gr.trans b.size d.size hj,b.transG d⟩
theorem BkPost.step (h:BkPost M bp bm sp lp pp dp qp mp blocks frames B w w1)(k:Below w1.heap.size w1 w2):BkPost M bp bm sp lp pp dp qp mp blocks frames B w w2:=
  ⟨BkM.mono (BkM.below h.1 k) fun j hj=>Gr.grow k.size hj,h.2.step k⟩
theorem BkM.cut (h:BkM M w bp bm sp lp pp dp qp mp blocks frames B):BkM (Cut M w.heap.size) w bp bm sp lp pp dp qp mp blocks frames B:=by
  obtain⟨R,sl,h⟩:=h
  obtain⟨es,cl,hm⟩:=h.map.map
  exact⟨Cut R w.heap.size,sl,h.box,FwM.cut h.f,h.map,h.row,fun k hk=>⟨⟨(h.r k hk.1).1,hk.2⟩,(h.r k hk.1).2⟩,fun s k hk=>⟨h.own s k hk,(h.rowAt hk).1⟩,h.apart,⟨h.low.1,heap_lt h.box⟩,⟨h.low.2,heap_lt hm⟩⟩
end
end Go.Proofs.YtaplpeoikebedaaGreatDoor.BackM
namespace Go.Proofs.YtaplpeoikebedaaGreatDoor.BackW
open Go.RowKit Go.Maps YtaplpeoikebedaaGreatDoorW.PrintWords YtaplpeoikebedaaGreatDoorW.PrintLast YtaplpeoikebedaaGreatDoorW.PrintMore
open See Mem Page Disk Dirty Pool2 SysD SysM StoreD StoreF TransT LockT LockU SpaceT WaitT FwdM FwdP FwdC FwdE FwdT BackM
attribute [local go_sem] max2_imax min2_imin max_two min_two
def slOf (B:BSt)(sl:Int→Value)(n id:Int):Value:=if (B.sv n).txn=id then sl n else .slice none 0 0
end Go.Proofs.YtaplpeoikebedaaGreatDoor.BackW
