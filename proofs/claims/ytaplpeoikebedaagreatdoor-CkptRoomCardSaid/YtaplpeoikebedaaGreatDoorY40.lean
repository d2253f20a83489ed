/- Joined texts: RoomK, RefF, BackP, CkptZ. No condition but what each says. -/
import Derived.Test.YtaplpeoikebedaaGreatDoorY39
import Derived.Test.YtaplpeoikebedaaGreatDoorY35
import Derived.Test.YtaplpeoikebedaaGreatDoorY38
set_option maxHeartbeats 8000000
set_option maxRecDepth 100000
set_option linter.unusedVariables false
set_option linter.unusedSimpArgs false
namespace Go.Proofs.YtaplpeoikebedaaGreatDoor.RoomK
open Go.RowKit See Mem Page PageB PageR PageL Disk DiskW RecD Dirty Dirty2 Wal WalF PoolG PoolS PoolA SysD SysM Fresh FlushG TabL Pager StoreD PageM StoreF StoreG StoreH StoreI StoreJ StoreK StoreV StoreW LockT LockU BackL TwiceD BackQ RoundD
theorem tnote_state (ts:List Tx)(id l n:Int) : ∀x∈tnote ts id l n,∃y∈ts,y.state=x.state:=by
  intro x hx
  unfold tnote at hx
  split at hx
  · obtain⟨j,hj⟩:=List.mem_iff_getElem?.1 hx
    rw[List.getElem?_modify] at hj
    obtain⟨y,hy,e⟩:=Option.map_eq_some_iff.1 hj
    refine⟨y,List.mem_of_getElem? hy,?_⟩
    rw[←e]
    split<;>rfl
  · exact⟨x,hx,rfl⟩
theorem one_tx {N m:Nat}{ch:Int→List Int}{kp:Int→Int}{F:FS}(h:FOk N m ch kp F)(hs:F.sess=1):F.ts.length≤1:=by
  have h1:(F.ts.map (·.id)).Nodup:=by
    have:=h.t.rise
    unfold Rising kvT at this
    rw[List.pairwise_map] at this
    unfold List.Nodup
    rw[List.pairwise_map]
    exact this.imp fun hab e=>by
      have hab':_<_:=hab
      simp only at hab'
      omega
  have:=nodup_sub (b:=[F.of 0]) h1 fun x hx=>by
    obtain⟨t,ht,rfl⟩:=List.mem_map.1 hx
    obtain⟨s,e⟩:=h.t.on t ht
    have h1:=(h.t.ids t ht).1
    obtain⟨a,b,_⟩:=h.t.ofs s (by rw[e];omega)
    have:s=0:=by omega
    rw[this] at e
    rw[List.mem_singleton]
    exact e.symm
  rw[List.length_map] at this
  exact this
structure CkS (F:FS):Prop where
  ok : ∃N m ch kp,FOk N m ch kp F∧m≤1000
  st : ∀x∈F.ts,0≤x.state∧x.state≤2
  frames:F.S.frames=4
  one:F.ts.length≤1
theorem CkS.few {F:FS}(h:CkS F):F.S.t.length≤4:=by
  obtain⟨N,m,ch,kp,hok,_⟩:=h.ok
  have:=tab_few hok.g.pg
  have:=h.frames
  omega
structure RmS (N m k:Nat) (F:FS):Prop where
  ok : ∃ch,FOk N m ch (fun _=>2) F
  same:F.sess=1∧F.of 0=1∧F.S.frames=4
  has_:thas F.ts 1=true
  kok:KOk (fun _=>0) F.ks
  kl:F.ks.length≤k
  st : ∀x∈F.ts,x.state=0
  bl:F.S.l.blocks≤10
theorem rm_ck {N m k:Nat}{F:FS}(h:RmS N m k F)(hm:m≤1000):CkS F:=by
  obtain⟨ch,hok⟩:=h.ok
  exact⟨⟨N,m,ch,_,hok,hm⟩,fun x hx=>by rw[h.st x hx];omega,h.same.2.2,one_tx hok h.same.1⟩
theorem rm_start (bl:Int)(h2:2≤bl∧bl≤10):RmS (1+4+bl:Int).toNat 0 0 (beginF (newF 4 bl 4 1) 0):=by
  have hn:=new_ok (P:=4) (blocks:=bl) (frames:=4) (sess:=1) 0 (by omega) (by omega) (by omega)
  have hfr:(newF 4 bl 4 1).free=bl*6:=rfl
  have hb:=begin_ok (n:=0) hn rfl (by decide) (by show (0:Int)<1;decide) rfl (by rw[hfr];omega) (by show (0:Int)<60000;decide)
  exact⟨⟨_,hb⟩,⟨rfl,rfl,rfl⟩,(hb.t.ofs 0 (by show (1:Int)≠0;decide)).2.2,KOk.nil _,Nat.le_refl _,fun x hx=>by
    have hx':x∈([⟨1,0,0+((0:Nat):Int)+1,0⟩]:List Tx):=hx
    rw[List.mem_singleton] at hx'
    rw[hx'],by show bl≤10;exact h2.2⟩
theorem rm_takes {N m k:Nat}{F:FS}(h:RmS N m k F){key:Int}(hkey:0≤key∧key<1048576)(hint:Int):RmS N (m+1) (k+1) (takesF F 0 key 2 hint):=by
  obtain⟨ch,hok⟩:=h.ok
  obtain⟨s1,s2,s3⟩:=h.same
  obtain⟨t1,t2,t3,t4,t5,t6,t7,t8,t9⟩:=takes_ok (n:=0) hok h.kok rfl hkey hint
  obtain⟨p1,p2⟩:=placeOf_in key hok.g.pg.pages
  obtain⟨S',g1,g2,g3,g4⟩:=get_ok hok hint p1 p2
  have hS:(takesF F 0 key 2 hint).S=S':=by unfold takesF;rw[g1]
  exact⟨⟨ch,t2⟩,⟨s1,s2,by rw[hS,g3.frames];exact s3⟩,h.has_,t3,by have:=h.kl;omega,h.st,by rw[hS,g3.ll.2.2.1];exact h.bl⟩
theorem rm_put {N m k:Nat}{F:FS}(h:RmS N m k F){key v:Int}(hkey:0≤key∧key<1048576)(hv:is64 v)(hint:Int) :
    (∃F' old had,putR F 0 key v hint=(F',old,had,none)∧RmS N (m+1) (k+1) F')∨(putR F 0 key v hint=(takesF F 0 key 2 hint,0,false,some 9))∨(putR F 0 key v hint=(takesF F 0 key 2 hint,0,false,some 8)):=by
  obtain⟨ch,hok⟩:=h.ok
  obtain⟨s1,s2,s3⟩:=h.same
  have hid:thas F.ts (F.of 0)=true:=by rw[s2];exact h.has_
  obtain⟨ch',q1,q2,q3,q4,q5,q6,q7,q8⟩:=put_step (n:=0) (v:=v) hint hok h.kok rfl hid hkey hv
  have ht:=rm_takes h hkey hint
  by_cases c1:has (cur F.S (placeOf key F.P)).2 key=false∧fullB (takesF F 0 key 2 hint) key=true
  · exact .inr (.inl (by unfold putR;rw[if_pos c1]))
  · by_cases c2:F.free<2
    · exact .inr (.inr (by unfold putR;rw[if_neg c1,if_pos c2]))
    · have e:putR F 0 key v hint=(setF (takesF F 0 key 2 hint) (F.of 0) key (has (cur F.S (placeOf key F.P)).2 key) (fromOf (cur F.S (placeOf key F.P)).2 key) true v,fromOf (cur F.S (placeOf key F.P)).2 key,has (cur F.S (placeOf key F.P)).2 key,none):=by unfold putR;rw[if_neg c1,if_neg c2]
      obtain⟨g1,g2,g3⟩:=put_log (q:=(_,_)) hok e
      rw[e] at q1 q2 q3 q5 q7
      refine .inl ⟨_,_,_,e,⟨ch',q1⟩,⟨q7.trans s1,by rw[q5];exact s2,?_⟩,?_,q2,by have:=h.kl;exact Nat.le_trans q3 (by omega),fun x hx => ?_,by rw[g1];exact h.bl⟩
      · show (chgS (takesF F 0 key 2 hint).S _).frames=4
        rw[(chg_l _ _).2]
        exact ht.same.2.2
      · show thas (tnote F.ts (F.of 0) _ _) 1=true
        rw[thas_ids (tnote_rise hok.t.rise),ids_tnote,←thas_ids hok.t.rise]
        exact h.has_
      · obtain⟨y,hy,ey⟩:=tnote_state F.ts (F.of 0) _ _ x hx
        rw[←ey]
        exact h.st y hy
theorem rm_abort {N m k:Nat}{F:FS}(h:RmS N m k F) : ∃ch,FOk N m ch (fun _=>2) F∧(ch 1).length≤60:=by
  obtain⟨ch,hok⟩:=h.ok
  obtain⟨s1,s2,s3⟩:=h.same
  have hk:=kept_ge hok h.has_ (fun _=>by omega)
  have hr:=hok.g.room
  have hrm:F.S.l.room≤60:=by
    have hl:=hok.g.lok
    have hb:=h.bl
    have:=hl.len
    unfold Lg.room
    omega
  exact⟨ch,hok,by omega⟩
theorem rm_ab {N m k:Nat}{F F':FS}{ch:Int→List Int}(h:RmS N m k F)(ha:AbortQ N m ch (fun _=>2) F 0 1 F')(hl:(ch 1).length≤60)(hm:m≤900):CkS F':=by
  obtain⟨s1,s2,s3⟩:=h.same
  obtain⟨q1,q2,q3,q4,q5,q6,q7⟩:=ha.same
  have hts:F'.ts=[]:=no_ts ha.ok (q2.trans s1) (by rw[q5];unfold upd;rw[if_pos rfl])
  exact⟨⟨N,_,_,_,ha.ok,by omega⟩,fun x hx=>by rw[hts] at hx;exact (List.not_mem_nil hx).elim,q7.trans s3,by rw[hts];exact Nat.zero_le _⟩
end Go.Proofs.YtaplpeoikebedaaGreatDoor.RoomK
namespace Go.Proofs.YtaplpeoikebedaaGreatDoor.RefF
open Go.RowKit Go.Maps YtaplpeoikebedaaGreatDoorW.PrintWords YtaplpeoikebedaaGreatDoorW.PrintLast YtaplpeoikebedaaGreatDoorW.PrintMore
open See Mem Clone Go.Proofs.YtaplpeoikebedaaGreatDoor.Cell Page PageB PageR PageL Disk Dirty Pool2 RecD Wal PoolG SysD SysM StoreD PageM StoreF StoreI StoreJ StoreW TransT LockT LockU SpaceT WaitT FwdM FwdP FwdC FwdT FwdU FwdW FwdX Pager BackM BackE
attribute [local go_sem] max2_imax min2_imin max_two min_two
theorem ends_err (a:Nat→Addr)(p:Value)(n hint v:Int)(is:Bool)(i:Nat)(w:World)(hs:SentsAll w a)(hi:i<18)(h11:i≠11)(h8:i≠8) :
    Calls Tryz.prog 87 #[p,.int .i64 n,.int .i64 hint,.int .i64 v,.bool is,errv a (some i)] w fun e w'=>e = .returned (.tuple #[.int .i64 v,.bool is,errv a (some i)])∧Below w.heap.size w w':=by
  have hg11:w.cell? ⟨12,0,none⟩=some (.iface 333 (.pointer (some (a 11)))):=hs.cell 11 (by decide)
  have hg8:w.cell? ⟨2,0,none⟩=some (.iface 333 (.pointer (some (a 8)))):=hs.cell 8 (by decide)
  have he11:=eql_other hs hi (show 11<18 by decide) h11
  have he8:=eql_other hs hi (show 8<18 by decide) h8
  rw[show errv a (some i) = .iface 333 (.pointer (some (a i))) from rfl]
  clear hs
  go_enter Tryz.func87,Tryz.ntmps87
  go_wp2_with fail
  exact bodyPost_ret (v:=.tuple #[.int .i64 v,.bool is,.iface 333 (.pointer (some (a i)))]) (by simp[results,Tryz.results87,go_sem]) rfl ⟨rfl,Below.refl _ _⟩
theorem bput_full (a:Nat→Addr)(M:Nat→Prop)(bp bm sp lp pp dp qp mp:Nat)(blocks frames:Int)(B:BSt)(n key v hint:Int)(N m:Nat)(ch:Int→List Int)(kp:Int→Int)(own:Int→Int)(F':FS)(w:World)(h:BkM M w bp bm sp lp pp dp qp mp blocks frames B)(hR:putR B.F n key v hint=(F',0,false,some 9))(hok:FOk N m ch kp B.F)(hk:KOk own B.F.ks)(he:own key=n)(hs:SentsAll w a)(hO:OutAll M a)(h0:0≤n)(h1:n<B.F.sess)(h2:B.F.sess≤1000)
    (hx:thas B.F.ts (B.F.of n)=true) (hk0:0≤key) (hk1:key<1048576) (hl:B.F.ks.length≤80000) (hm:m≤30000) (hh0 : -9223372036854775808≤hint) (hh1:hint≤9223372036854775807) (hv:is64 v) :
    Calls Tryz.prog 33 #[.pointer (some ⟨bp,0,none⟩),.int .i64 n,.int .i64 key,.int .i64 v,.int .i64 hint] w fun e w'=>e = .returned (.tuple #[.int .i64 0,.bool false,errv a (some 9)])∧BkPost M bp bm sp lp pp dp qp mp blocks frames { B with F:=F' } w w':=by
  obtain⟨R,sl,h⟩:=h
  have HP:=Aside0.mk (put_calls a R sp lp pp dp qp mp blocks frames B.F n key v hint N m ch kp own w h.f hok hk he hs (OutAll.sub (M':=R) hO fun k hk=>(h.r k hk).1) h0 h1 h2 hx hk0 hk1 hl hm hh0 hh1 hv)
  unfold PutPost at HP
  rw[hR] at HP
  have HH:=Aside0.mk h
  have HS:=Aside0.mk hs
  have HO:=Aside0.mk hO
  obtain⟨c0,c1⟩:=h.cells
  have hbl:=heap_lt h.box
  have hev:errv a (some 9) = .iface 333 (.pointer (some (a 9))):=rfl
  rw[hev] at HP
  clear h hR hok hk he hs hO hx hl hm hv h0 h1 h2
  go_enter Tryz.func33,Tryz.ntmps33
  go_wp2_with fail
  refine HP.out.mono ?_
  rintro e w1 ⟨rfl,hp⟩
  have HP1:=Aside0.mk (HH.out.fw hp)
  have HS1:=Aside0.mk (SentsAll.kp HS.out HP1.out.2 HO.out)
  clear hp c0 c1 hbl
  have HEN:=Aside0.mk (by
    have:=ends_err a (.pointer (some ⟨bp,0,none⟩)) n hint 0 false 9 w1 HS1.out (by decide) (by decide) (by decide)
    rw[hev] at this
    exact this)
  go_wp2_with fail
  refine HEN.out.mono ?_
  rintro e w2 ⟨rfl,hb⟩
  have HP2:=Aside0.mk (BkPost.step HP1.out hb)
  clear hb
  go_wp2_with fail
  exact bodyPost_ret (v:=.tuple #[.int .i64 0,.bool false,.iface 333 (.pointer (some (a 9)))]) (by simp[results,Tryz.results33,go_sem]) rfl ⟨rfl,HP2.out⟩
end Go.Proofs.YtaplpeoikebedaaGreatDoor.RefF
namespace Go.Proofs.YtaplpeoikebedaaGreatDoor.BackP
open Go.RowKit Go.Maps YtaplpeoikebedaaGreatDoorW.PrintWords YtaplpeoikebedaaGreatDoorW.PrintLast YtaplpeoikebedaaGreatDoorW.PrintMore
open See Mem Clone Go.Proofs.YtaplpeoikebedaaGreatDoor.Cell Page PageB PageR PageL Disk Dirty Pool2 RecD Wal PoolG SysD SysM StoreD PageM StoreF StoreI StoreJ StoreW TransT LockT LockU SpaceT WaitT FwdM FwdP FwdC FwdT FwdU FwdW FwdX Pager BackM BackV BackE RefF BackQ
attribute [local go_sem] max2_imax min2_imin max_two min_two
theorem ends_abort (a:Nat→Addr)(M:Nat→Prop)(bp bm sp lp pp dp qp mp:Nat)(blocks frames:Int)(B:BSt)(n id hint v:Int)(is:Bool)(N m:Nat)(ch:Int→List Int)(kp:Int→Int)(w:World)(h:BkM M w bp bm sp lp pp dp qp mp blocks frames B)(hok:FOk N m ch kp B.F)(hof:B.F.of n=id)(hid:thas B.F.ts id=true)(hkp2:kp id=2)(hkp : ∀x,0≤kp x)(hm:m+(ch id).length≤30000)(hfr:B.F.S.frames≤8)(hs:SentsAll w a)(hO:OutAll M a)(h0:0≤n)(h1:n<B.F.sess)(h2:B.F.sess≤1000)(hh0 : -9223372036854775808≤hint)(hh1:hint≤9223372036854775807) :
    Calls Tryz.prog 87 #[.pointer (some ⟨bp,0,none⟩),.int .i64 n,.int .i64 hint,.int .i64 v,.bool is,errv a (some 8)] w fun e w'=>e = .returned (.tuple #[.int .i64 v,.bool is,errv a (some 8)])∧∃F',AbortQ N m ch kp B.F n id F'∧BkPost M bp bm sp lp pp dp qp mp blocks frames { F:=F',sv:=updS B.sv n ⟨0,[]⟩,nu:=B.nu } w w':=by
  have hg11:w.cell? ⟨12,0,none⟩=some (.iface 333 (.pointer (some (a 11)))):=hs.cell 11 (by decide)
  have hg8:w.cell? ⟨2,0,none⟩=some (.iface 333 (.pointer (some (a 8)))):=hs.cell 8 (by decide)
  have hgl11:12<w.heap.size:=World.block_lt_of_cell? _ _ hg11
  have hgl8:2<w.heap.size:=World.block_lt_of_cell? _ _ hg8
  have he11:=eql_other hs (show 8<18 by decide) (show 11<18 by decide) (by decide)
  have he8:=eql_same (a 8) w
  have HAB:=Aside0.mk (abort2_calls a M bp bm sp lp pp dp qp mp blocks frames B n id hint N m ch kp w h hok hof hid hkp2 hkp hm hfr hs hO h0 h1 h2 hh0 hh1)
  rw[show errv a (some 8) = .iface 333 (.pointer (some (a 8))) from rfl]
  clear h hok hof hid hkp2 hkp hm hfr hs hO h0 h1 h2 hh0 hh1
  go_enter Tryz.func87,Tryz.ntmps87
  go_wp2_with fail
  refine HAB.out.mono ?_
  rintro e w1 ⟨rfl,F',h1,h2⟩
  have H1:=Aside0.mk h1
  have H2:=Aside0.mk h2
  clear h1 h2 hg11 hg8 he11 he8 HAB
  go_wp2_with fail
  exact bodyPost_ret (v:=.tuple #[.int .i64 v,.bool is,.iface 333 (.pointer (some (a 8)))]) (by simp[results,Tryz.results87,go_sem]) rfl ⟨rfl,F',H1.out,H2.out⟩
theorem bput_room (a:Nat→Addr)(M:Nat→Prop)(bp bm sp lp pp dp qp mp:Nat)(blocks frames:Int)(B:BSt)(n key v hint:Int)(N m:Nat)(ch:Int→List Int)(kp:Int→Int)(own:Int→Int)(id:Int)(w:World)(h:BkM M w bp bm sp lp pp dp qp mp blocks frames B)(hR:putR B.F n key v hint=(takesF B.F n key 2 hint,0,false,some 8))(hok:FOk N m ch kp B.F)(hk:KOk own B.F.ks)(he:own key=n)(hs:SentsAll w a)(hO:OutAll M a)(h0:0≤n)(h1:n<B.F.sess)(h2:B.F.sess≤1000)
    (hof:B.F.of n=id) (hx:thas B.F.ts id=true) (hkp2:kp id=2) (hkp : ∀x,0≤kp x) (hfr:B.F.S.frames≤8) (hk0:0≤key) (hk1:key<1048576) (hl:B.F.ks.length≤80000) (hm:m+(ch id).length≤20000) (hh0 : -9223372036854775808≤hint) (hh1:hint≤9223372036854775807) (hv:is64 v) :
    Calls Tryz.prog 33 #[.pointer (some ⟨bp,0,none⟩),.int .i64 n,.int .i64 key,.int .i64 v,.int .i64 hint] w fun e w'=>e = .returned (.tuple #[.int .i64 0,.bool false,errv a (some 8)])∧∃F',AbortQ N (m+1) ch kp (takesF B.F n key 2 hint) n id F'∧BkPost M bp bm sp lp pp dp qp mp blocks frames { F:=F',sv:=updS B.sv n ⟨0,[]⟩,nu:=B.nu } w w':=by
  obtain⟨R,sl,h⟩:=h
  have HP:=Aside0.mk (put_calls a R sp lp pp dp qp mp blocks frames B.F n key v hint N m ch kp own w h.f hok hk he hs (OutAll.sub (M':=R) hO fun k hk=>(h.r k hk).1) h0 h1 h2 (by rw[hof];exact hx) hk0 hk1 hl (by omega) hh0 hh1 hv)
  unfold PutPost at HP
  rw[hR] at HP
  have HT:=Aside0.mk (takes_ok hok hk he ⟨hk0,hk1⟩ hint).2.1
  have HFR:=Aside0.mk (show (takesF B.F n key 2 hint).S.frames≤8 by rw[(takes_same hok n key 2 hint).2];exact hfr)
  have HH:=Aside0.mk h
  have HS:=Aside0.mk hs
  have HO:=Aside0.mk hO
  have HC:=Aside0.mk (And.intro hof (And.intro hx (And.intro hkp2 (And.intro hkp (And.intro hm (And.intro h0 (And.intro h1 (And.intro h2 (And.intro hh0 hh1)))))))))
  obtain⟨c0,c1⟩:=h.cells
  have hbl:=heap_lt h.box
  have hev:errv a (some 8) = .iface 333 (.pointer (some (a 8))):=rfl
  rw[hev] at HP
  clear h hR hok hk he hs hO hx hl hm hv h0 h1 h2 hof hkp2 hkp hfr
  go_enter Tryz.func33,Tryz.ntmps33
  go_wp2_with fail
  refine HP.out.mono ?_
  rintro e w1 ⟨rfl,hp⟩
  have HP1:=Aside0.mk (HH.out.fw hp)
  have HS1:=Aside0.mk (SentsAll.kp HS.out HP1.out.2 HO.out)
  clear hp c0 c1 hbl
  have HEN:=Aside0.mk (by
    obtain⟨q1,q2,q3,q4,q5,q6,q7,q8,q9,q10⟩:=HC.out
    have:=ends_abort a (Gr M w w1) bp bm sp lp pp dp qp mp blocks frames { B with F:=takesF B.F n key 2 hint } n id hint 0 false N (m+1) ch kp w1 HP1.out.1 HT.out q1 q2 q3 q4 (by omega) HFR.out HS1.out (OutAll.gr HO.out HS.out) q6 q7 q8 q9 q10
    rw[hev] at this
    exact this)
  go_wp2_with fail
  refine HEN.out.mono ?_
  rintro e w2 ⟨rfl,F',h1,h2⟩
  have H1:=Aside0.mk h1
  have H2:=Aside0.mk (BkPost.trans HP1.out fun _=>h2)
  clear h1 h2
  go_wp2_with fail
  exact bodyPost_ret (v:=.tuple #[.int .i64 0,.bool false,.iface 333 (.pointer (some (a 8)))]) (by simp[results,Tryz.results33,go_sem]) rfl ⟨rfl,F',H1.out,H2.out⟩
end Go.Proofs.YtaplpeoikebedaaGreatDoor.BackP
namespace Go.Proofs.YtaplpeoikebedaaGreatDoor.CkptZ
open Go.RowKit Go.Maps YtaplpeoikebedaaGreatDoorW.PrintWords YtaplpeoikebedaaGreatDoorW.PrintLast YtaplpeoikebedaaGreatDoorW.PrintMore
open See Mem Page PageR PageL Disk DiskW DiskS RecD Rec BlockB Wal WalF Pool2 SysD SysM Fresh Pager StoreD StoreF StoreI StoreJ TransT SpaceT FwdM FwdP BackL BackM BackU MasC MasT CkptM CkptK CkptR CkptP CkptW CkptC
attribute [local go_sem] max2_imax min2_imin max_two min_two
theorem spMZ {M:Nat→Prop}{w:World}{sp lp pp dp qp mp:Nat}{blocks frames:Int}{F:FS}(h:FwM M w sp lp pp dp qp mp blocks frames F) : ∃tv,w.cell? ⟨sp,8,none⟩=some tv∧TR w tv F.ts:=by
  obtain⟨kv,tv,b1,b2,b3,b4,b5⟩:=h.box
  exact⟨tv,by simp[World.cell?,b1,fwCells],b4⟩
theorem ckpt_full (a:Nat→Addr)(M:Nat→Prop)(cp bp bm sp lp pp dp qp mp:Nat)(blocks frames:Int)(B:BSt)(m:Mst)(w:World)(h:CkM M w cp bp bm sp lp pp dp qp mp blocks frames B m)(hroom:0≤B.F.free∧B.F.free≤1073741824)(hno:B.F.free<((2+B.F.ts.length+B.F.S.t.length:Nat):Int))(hs:SentsAll w a) :
    Calls Tryz.prog 43 #[.pointer (some ⟨cp,0,none⟩)] w fun e w'=>e = .returned (errv a (some 8))∧Below w.heap.size w w':=by
  obtain⟨R,h⟩:=h
  obtain⟨Rb,sl,hb⟩:=h.b
  have HB:=Aside0.mk hb
  have HS:=Aside0.mk hs
  obtain⟨nt,hnt⟩ : ∃n,B.F.ts.length=n:=⟨_,rfl⟩
  obtain⟨nd,hnd⟩ : ∃n,B.F.S.t.length=n:=⟨_,rfl⟩
  have HNT:=Aside0.mk (And.intro hnt hnd)
  rw[hnt,hnd] at hno
  have hn4:nt≤100000∧nd≤80000:=by
    obtain⟨tv,_,q⟩:=spMZ hb.f
    exact⟨by rw[←hnt];exact q.2,by rw[←hnd];exact hb.f.sys.tab⟩
  have HFR:=Aside0.mk (And.intro hroom hno)
  obtain⟨k0,k1,k2,k3,k4,k5,k6,k7,k8⟩:=h.cells
  obtain⟨b0,_⟩:=hb.cells
  have hcl:=heap_lt h.box
  have hbl:=heap_lt hb.box
  have HP:=Aside0.mk (parts_calls Rb sp lp pp dp qp mp blocks frames B.F w hb.f)
  clear h hb hs hroom hno hnt hnd
  go_enter Tryz.func43,Tryz.ntmps43
  go_wp2_with fail
  refine HP.out.mono ?_
  rintro e w1 ⟨rfl,hb1⟩
  have HB1:=Aside0.mk hb1
  have HF1:=Aside0.mk (HB.out.f.below hb1)
  clear hb1
  have HAL:=Aside0.mk (show Calls Tryz.prog 79 #[.pointer (some ⟨sp,8,none⟩)] w1 fun e w' => ∃A c,e = .returned (.slice A nt c)∧Below w1.heap.size w1 w' from by
    obtain⟨tv,q1,q2⟩:=spMZ HF1.out
    refine (tall_calls sp 8 tv B.F.ts w1 q2 q1).mono ?_
    rintro e w' ⟨v,rfl,hv,hb⟩
    obtain⟨A,c,rfl,_⟩:=ow_slice hv.1
    rw[HNT.out.1]
    exact⟨A,c,rfl,hb⟩)
  go_wp2_with fail
  refine HAL.out.mono ?_
  rintro e w2 ⟨At,ct,rfl,hb2⟩
  have HB2:=Aside0.mk (below_step HB1.out hb2)
  clear hb2 HAL
  have HDI:=Aside0.mk (show Calls Tryz.prog 96 #[.pointer (some ⟨pp,0,none⟩)] w2 fun e w' => ∃A c,e = .returned (.slice A nd c)∧Below w2.heap.size w2 w' from by
    refine (dirty_pool (HB.out.f.below HB2.out).sys).mono ?_
    rintro e w' ⟨v,rfl,hv,hb⟩
    obtain⟨A,c,rfl,_⟩:=ow_slice hv.1
    rw[HNT.out.2]
    exact⟨A,c,rfl,hb⟩)
  go_wp2_with fail
  refine HDI.out.mono ?_
  rintro e w3 ⟨Ad,cd,rfl,hb3⟩
  have HB3:=Aside0.mk (below_step HB2.out hb3)
  clear hb3 HDI
  have hw1:IntKind.i64.wrap (2+(nt:Int))=2+(nt:Int):=by rw[IntKind.wrap_i64];omega
  have hw2:IntKind.i64.wrap (2+(nt:Int)+(nd:Int))=2+(nt:Int)+(nd:Int):=by rw[IntKind.wrap_i64];omega
  have HASK:=Aside0.mk (show Calls Tryz.prog 65 #[.pointer (some ⟨qp,0,none⟩),.int .i64 (2+(nt:Int)+(nd:Int)),.int .i64 0] w3 fun e w'=>e = .returned (.iface 333 (.pointer (some (a 8))))∧w3=w' from by
    have hl:=HB.out.f.below HB3.out
    have hf:=HFR.out
    exact ask_full (List.range 18) (by decide) a qp B.F.free B.F.kept (2+(nt:Int)+(nd:Int)) 0 w3 ((HS.out.below HB3.out).k _ (by decide)) hl.room (by omega) (by omega) (by omega) (by omega) (by omega) (by omega))
  go_wp2_with fail
  refine HASK.out.mono ?_
  rintro e w4 ⟨rfl,rfl⟩
  go_wp2_with fail
  go_ret
  exact⟨rfl,HB3.out⟩
end Go.Proofs.YtaplpeoikebedaaGreatDoor.CkptZ
