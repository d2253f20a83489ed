/- Joined texts: WalkCkptResets. No condition but what each says. -/
import Derived.Test.YtaplpeoikebedaaGreatDoorX43
import Derived.Test.YtaplpeoikebedaaGreatDoorX44
import Derived.Test.YtaplpeoikebedaaGreatDoorX20
set_option maxHeartbeats 8000000
set_option maxRecDepth 100000
set_option linter.unusedVariables false
set_option linter.unusedSimpArgs false
namespace Go.Proofs.YtaplpeoikebedaaGreatDoor.WalkCkptResets
open Go.RowKit Go.Maps YtaplpeoikebedaaGreatDoorW.PrintWords YtaplpeoikebedaaGreatDoorW.PrintLast YtaplpeoikebedaaGreatDoorW.PrintMore
open See Mem Page PageL Disk DiskL RecD Dirty Wal Pool2 SysD SysM Num Pager StoreD StoreF StoreI StoreJ StoreK SpaceT FwdM FwdP FwdK First17 BackM BackN BackE ValD MasC CkptD MasT CkptM CkptK CkptW CkptN CkptB First19 PagW ResetD RoundD CkptA
attribute [local go_sem] max2_imax min2_imin max_two min_two
theorem ckcommit (a:Nat→Addr)(n cp bp bm sp lp pp dp qp mp:Nat)(blocks frames:Int)(B:BSt)(m:Mst)(id:Int)(N mm:Nat)(ch:Int→List Int)(kp:Int→Int)(w:World)(h:CkM (fun k=>n≤k) w cp bp bm sp lp pp dp qp mp blocks frames B m)(hn:n≤w.heap.size)(hok:FOk N mm ch kp B.F)(hcm:CommitOk N mm ch kp B.F 0 id)(hs:SentsAll w a)(hO:OutAll (fun k=>n≤k) a)(h1:0<B.F.sess)(h2:B.F.sess≤1000)(hof:B.F.of 0=id)(hid:thas B.F.ts id=true)(hm:mm≤30000)(hall : ∀x∈B.F.ks,x.s=0) :
    Calls Tryz.prog 25 #[.pointer (some ⟨sp,0,none⟩),.int .i64 0] w fun e w'=>e = .returned .nilIface∧CkM (fun k=>n≤k) w' cp bp bm sp lp pp dp qp mp blocks frames { B with F:=commitF B.F 0 id ((ch id).length:Int) } m∧Below n w w':=by
  obtain⟨R,h⟩:=h
  obtain⟨Rb,sl,hb⟩:=h.b
  refine (commit_calls a Rb sp lp pp dp qp mp blocks frames B.F 0 id N mm ch kp w hb.f hok hcm hs (OutAll.sub hO fun k hk=>(h.r k (hb.r k hk).1).1) (by decide) h1 h2 hof hid hm hall).mono ?_
  rintro e w' ⟨rfl,hpost⟩
  exact⟨rfl,ck_up (h.bk (hb.fw hpost)) hn⟩
theorem ckspace (n cp bp bm sp lp pp dp qp mp:Nat)(blocks frames:Int)(B:BSt)(m:Mst)(w:World)(h:CkM (fun k=>n≤k) w cp bp bm sp lp pp dp qp mp blocks frames B m) :
    Calls Tryz.prog 17 #[.pointer (some ⟨sp,0,none⟩)] w fun e w'=>e = .returned (.tuple #[.int .i64 B.F.free,.int .i64 B.F.kept])∧Below w.heap.size w w':=by
  obtain⟨R,h⟩:=h
  obtain⟨Rb,sl,hb⟩:=h.b
  exact space_calls Rb sp lp pp dp qp mp blocks frames B.F w hb.f
theorem CkM.cut {M:Nat→Prop}{cp bp bm sp lp pp dp qp mp:Nat}{blocks frames:Int}{B:BSt}{m:Mst}{w:World}(h:CkM M w cp bp bm sp lp pp dp qp mp blocks frames B m):CkM (Cut M w.heap.size) w cp bp bm sp lp pp dp qp mp blocks frames B m:=by
  obtain⟨R,h⟩:=h
  exact⟨Cut R w.heap.size,h.box,h.b.cut,fun k hk=>⟨⟨(h.r k hk.1).1,hk.2⟩,(h.r k hk.1).2⟩,h.low,heap_lt h.box⟩
theorem ckloose (n cp bp bm sp lp pp dp qp mp:Nat)(blocks frames:Int)(B:BSt)(m:Mst)(w:World)(h:CkM (fun k=>n≤k) w cp bp bm sp lp pp dp qp mp blocks frames B m)(hl : ∀s∈B.F.S.d.l,s.loose=[]) :
    Calls Tryz.prog 52 #[.pointer (some ⟨dp,0,none⟩)] w fun e w' => ∃A c,e = .returned (.slice A 0 c)∧Below w.heap.size w w':=by
  obtain⟨R,h⟩:=h
  obtain⟨Rb,sl,hb⟩:=h.b
  refine (loose_disk _ dp B.F.S.d w hb.f.sys.dsk).mono ?_
  rintro e w' ⟨v,rfl,hp,hbw⟩
  have hnil:looseN B.F.S.d.l B.F.S.d.l.length=[]:=by
    unfold looseN
    rw[List.filterMap_eq_nil_iff]
    intro j _
    unfold looseOne
    cases hj:B.F.S.d.l[j]? with
    | none=>rfl
    | some s=>simp[hl s (List.mem_of_getElem? hj)]
  rw[hnil] at hp
  obtain⟨A,c,rfl,_⟩:=ow_slice hp.1
  exact⟨A,c,rfl,hbw⟩
theorem rs_put {n cp bp bm sp lp pp dp qp mp:Nat}{blocks frames:Int}{B:BSt}{m:Mst}{w:World}{a:Nat→Addr}{N k:Nat}{p i:Int}(h:CkM (fun j=>n≤j) w cp bp bm sp lp pp dp qp mp blocks frames B m)(hn:n≤w.heap.size)(hk:PuS N k p i B.F)(hkp:(k:Int)<p)(hp6:p≤6)(hi:0≤i∧i≤100)(hS:SentsAll w a)(hO:OutAll (fun j=>n≤j) a) :
    Calls Tryz.prog 33 #[.pointer (some ⟨bp,0,none⟩),.int .i64 0,.int .i64 k,.int .i64 (10*i+k),.int .i64 i] w fun e w' => ∃o,e = .returned (.tuple #[.int .i64 o,.bool (decide (0<i)),.nilIface])∧∃B',PuS N (k+1) p i B'.F∧CkM (fun j=>n≤j) w' cp bp bm sp lp pp dp qp mp blocks frames B' m∧Below n w w':=by
  obtain⟨R,h⟩:=h
  obtain⟨F',e1,e2⟩:=pu_put hk hkp hp6 hi i
  obtain⟨ch,hok⟩:=hk.ok
  obtain⟨s1,s2,s3,s4,s5⟩:=hk.same
  refine (bput_calls a R bp bm sp lp pp dp qp mp blocks frames B 0 k (10*i+k) i N k ch _ (fun _=>0) F' _ _ w h.b e1 hok hk.kok rfl hS (OutAll.sub hO fun j hj=>(h.r j hj).1) (by decide) (by rw[s2];decide) (by rw[s2];decide) (by rw[s4];exact hk.has_) (by omega) (by omega) (by have:=hk.kl;omega) (by omega) (by omega) (by omega) (by unfold is64;omega)).mono ?_
  rintro e w' ⟨rfl,hp⟩
  exact⟨_,rfl,⟨F',B.sv,B.nu⟩,e2,ck_up (h.bk hp) hn⟩
theorem resets_calls (n0 p0:Int)(a:Nat→Addr)(w:World)(hs:SentsK (List.range 18) w a) :
    Calls Tryz.prog 13 #[.int .i64 n0,.int .i64 p0] w fun e w'=>e = .returned (.bool true)∧Below w.heap.size w w':=by
  have HS:=Aside0.mk hs.all
  obtain⟨nn,hnn⟩ : ∃k,n0 % 10=k:=⟨_,rfl⟩
  obtain⟨pp0,hpp⟩ : ∃k,p0 % 6=k:=⟨_,rfl⟩
  have HNN:=Aside0.mk hnn
  have HPP:=Aside0.mk hpp
  have hnb:0≤nn∧nn<10:=by omega
  have hpb:0≤pp0∧pp0<6:=by omega
  obtain⟨n,hn⟩ : ∃k,nn+1=k:=⟨_,rfl⟩
  obtain⟨p,hp⟩ : ∃k,pp0+1=k:=⟨_,rfl⟩
  have hwn:IntKind.i64.wrap (nn+1)=n:=by rw[IntKind.wrap_i64];omega
  have hwp:IntKind.i64.wrap (pp0+1)=p:=by rw[IntKind.wrap_i64];omega
  have HNP:=Aside0.mk (show 1≤n∧n≤10∧1≤p∧p≤6 by omega)
  clear hs hnn hpp hnb hpb hn hp
  go_enter Tryz.func13,Tryz.ntmps13
  go_wp2_with fail
  refine (first19_calls a _ HS.out).mono ?_
  rintro e w0 ⟨rfl,hb⟩
  have HBA:=Aside0.mk hb
  have HS1:=Aside0.mk (HS.out.below hb)
  have HO:=Aside0.mk (out_all HS1.out)
  clear hb
  go_wp2_with fail
  refine (num_at _ _ _ (by omega) (by omega) HNN.out _).mono ?_
  rintro e w1 ⟨rfl,rfl⟩
  go_wp2_with fail
  refine (num_at _ _ _ (by omega) (by omega) HPP.out _).mono ?_
  rintro e w1 ⟨rfl,rfl⟩
  go_wp2_with fail
  refine (made19_calls 3 8 2 1 (by omega) (by omega) (by omega) w0).mono ?_
  rintro e w2 ⟨cp,bp,bm,sp,lp,pp,dp,qp,mp,q,rfl,hck,hb⟩
  have HCK:=Aside0.mk hck
  have HB:=Aside0.mk hb
  have HID:=Aside0.mk (id_start p)
  have hp1:1≤p:=HNP.out.2.2.1
  have hp6:p≤6:=HNP.out.2.2.2
  clear hck hb
  go_wp2_with fail
  go_loopg [9,10] (n.toNat+1) (fun kq v9 v10 w' => ∃(la i:Int) (B:BSt) (qp:Nat),v9 = .int .i64 la∧v10 = .int .i64 i∧Aside0 (0≤i∧i≤n∧(kq:Int)=n+1 - i∧la=i*(p+3)∧0≤la∧la≤90)∧Aside0 (IdS (1+3+8:Int).toNat p i B.F)∧Aside0 (CkM (fun j=>w0.heap.size≤j) w' cp bp bm sp lp pp dp qp mp 8 2 B ⟨i+1,la,i+1,0,3,8,2⟩)∧Aside0 (Below w0.heap.size w0 w'))
  case atStart=>exact⟨0,0,newB (newF 3 8 2 1),qp,rfl,rfl,⟨by omega,by have:=HNP.out;omega,by have:=HNP.out;omega,by omega,by omega,by omega⟩,HID,HCK,HB⟩
  case round=>
    clear HID HCK HB
    obtain⟨la,i,B,qp,rfl,rfl,HI,HID,HC,HB⟩:=hrel
    have hi0:0≤i:=HI.out.1
    have hi10:i≤10:=by have:=HI.out;have:=HNP.out;omega
    obtain⟨⟨k0,hcl⟩,b0,hbl⟩:=ck_box HC.out
    obtain⟨HPU,hfr,hmo⟩:=id_begin HID.out ⟨hi0,by omega⟩
    have HPU:=Aside0.mk HPU
    have HBE:=Aside0.mk (ckbegin a w0.heap.size cp bp bm sp lp pp dp qp mp 8 2 B _ _ 0 _ _ wr HC.out HB.out.size HID.out.ok (HS1.out.below HB.out) HO.out (by rw[HID.out.same.2.1];decide) (by rw[HID.out.same.2.1];decide) HID.out.same.2.2.2.1 hmo hfr)
    clear hfr hmo
    by_cases hlt:i<n
    · go_wp2_with fail
      refine HBE.out.mono ?_
      rintro e w3 ⟨rfl,hck,hb⟩
      have HC3:=Aside0.mk hck
      have HB3:=Aside0.mk (HB.out.trans hb)
      clear hck hb k0 hcl b0 hbl HBE HID HC HB
      go_wp2_with fail
      go_loopg [11] (p.toNat+1) (fun kq v11 w' => ∃(k:Int) (B:BSt),v11 = .int .i64 k∧Aside0 (0≤k∧k≤p∧(kq:Int)=p+1 - k)∧Aside0 (PuS (1+3+8:Int).toNat k.toNat p i B.F)∧Aside0 (CkM (fun j=>w0.heap.size≤j) w' cp bp bm sp lp pp dp qp mp 8 2 B ⟨i+1,la,i+1,0,3,8,2⟩)∧Aside0 (Below w0.heap.size w0 w'))
      case atStart=>exact⟨0,{ B with F:=beginF B.F 0 },rfl,⟨by omega,by omega,by omega⟩,HPU,HC3,HB3⟩
      case round=>
        clear HPU HC3 HB3
        obtain⟨k,B,rfl,HK,HPU,HC,HB⟩:=hrel
        have hk0:0≤k:=HK.out.1
        obtain⟨⟨k0,hcl⟩,b0,hbl⟩:=ck_box HC.out
        by_cases hkl:k<p
        · have hw1:IntKind.i64.wrap (10*i)=10*i:=by rw[IntKind.wrap_i64];omega
          have hw2:IntKind.i64.wrap (10*i+k)=10*i+k:=by rw[IntKind.wrap_i64];omega
          have hw3:IntKind.i64.wrap (k+1)=k+1:=by rw[IntKind.wrap_i64];omega
          have hkk:((k.toNat:Nat):Int)=k:=by omega
          have HPT:=Aside0.mk (by
            have:=rs_put HC.out HB.out.size HPU.out (by omega) hp6 ⟨hi0,by omega⟩ (HS1.out.below HB.out) HO.out
            rw[hkk] at this
            exact this)
          go_wp2_with fail
          refine HPT.out.mono ?_
          rintro e w4 ⟨o,rfl,B4,hk4,hc4,hb4⟩
          have HK4:=Aside0.mk (show PuS (1+3+8:Int).toNat (k+1).toNat p i B4.F from by rw[show (k+1).toNat=k.toNat+1 by omega];exact hk4)
          have HC4:=Aside0.mk hc4
          have HB4:=Aside0.mk (HB.out.trans hb4)
          clear hk4 hc4 hb4 k0 hcl b0 hbl HPT
          have hgt:(decide (0<i) != decide (i>0))=false:=by simp
          go_wp2_with fail
          go_roundg (gk - 1)
          case measure=>have:=HK.out;omega
          case rel=>exact⟨k+1,B4,rfl,⟨by omega,by omega,by have:=HK.out;omega⟩,HK4,HC4,HB4⟩
        · have hkp:((k.toNat:Nat):Int)=p:=by have:=HK.out;omega
          have HRB:=Aside0.mk (reset_busy a _ cp bp bm sp lp pp dp qp mp 8 2 B _ wr HC.out (by
            intro e
            have:=HPU.out.has_
            rw[e] at this
            cases this) (HS1.out.below HB.out))
          go_wp2_with fail
          refine HRB.out.mono ?_
          rintro e w4 ⟨rfl,hb⟩
          have HC4:=Aside0.mk (HC.out.below hb)
          have HB4:=Aside0.mk (below_step HB.out hb)
          clear hb HRB HC HB k0 hcl b0 hbl
          go_wp2_with fail
          refine (is_calls a (errv a (some 15)) 116 (.inr ⟨15,by decide,rfl,by decide⟩) 116 _ (HS1.out.below HB4.out)).mono ?_
          rintro e w5 ⟨rfl,hb⟩
          have HC5:=Aside0.mk (HC4.out.below hb)
          have HB5:=Aside0.mk (below_step HB4.out hb)
          clear hb HC4 HB4
          rw[show ((116:Int) == 116)=true from by decide]
          obtain⟨⟨k0,hcl⟩,b0,hbl⟩:=ck_box HC5.out
          obtain⟨ch,hok,hcm,hcs⟩:=pu_commit HPU.out hkp hp6
          have HCS:=Aside0.mk hcs
          have HCO:=Aside0.mk (ckcommit a w0.heap.size cp bp bm sp lp pp dp qp mp 8 2 B _ (i+1) _ _ ch _ w5 HC5.out HB5.out.size hok hcm (HS1.out.below HB5.out) HO.out (by rw[HPU.out.same.2.1];decide) (by rw[HPU.out.same.2.1];decide) HPU.out.same.2.2.2.1 HPU.out.has_ (by omega) (fun x hx=>(HPU.out.kok.own x hx).symm))
          clear hok hcm hcs
          go_wp2_with fail
          refine HCO.out.mono ?_
          rintro e w6 ⟨rfl,hc6,hb6⟩
          have HC6:=Aside0.mk hc6
          have HB6:=Aside0.mk (HB5.out.trans hb6)
          clear hc6 hb6 k0 hcl b0 hbl HCO HC5 HB5 HPU
          generalize hBC:({ B with F:=commitF B.F 0 (i+1) ((ch (i+1)).length:Int) }:BSt)=BC at HC6
          have HCS:=Aside0.mk (show CmS (1+3+8:Int).toNat p i BC.F by rw[←hBC];exact HCS.out)
          clear hBC
          have HMA:=Aside0.mk (show Calls Tryz.prog 41 #[.pointer (some ⟨cp,0,none⟩)] w6 fun e w'=>e = .returned (.agg #[.int .i64 (i+1),.int .i64 la,.int .i64 (i+1),.int .i64 0,.int .i64 3,.int .i64 8,.int .i64 2])∧Below w6.heap.size w6 w' from master_calls HC6.out)
          go_wp2_with fail
          refine HMA.out.mono ?_
          rintro e w7 ⟨rfl,hb⟩
          have HC7:=Aside0.mk (HC6.out.below hb)
          have HB7:=Aside0.mk (below_step HB6.out hb)
          clear hb HMA HC6 HB6
          obtain⟨W7,hW7⟩ : ∃W,w7.alloc (.cells #[.int .i64 (i+1),.int .i64 la,.int .i64 (i+1),.int .i64 0,.int .i64 3,.int .i64 8,.int .i64 2] 84)=W:=⟨_,rfl⟩
          obtain⟨b15,hb15⟩ : ∃b,w7.heap.size=b:=⟨_,rfl⟩
          have HW7:=Aside0.mk (And.intro hW7 hb15)
          have HM15:=Aside0.mk (show W7.heap[b15]? = some (.cells #[.int .i64 (i+1),.int .i64 la,.int .i64 (i+1),.int .i64 0,.int .i64 3,.int .i64 8,.int .i64 2] 84 (0,0)) from by rw[←hW7,←hb15];exact heap_alloc_new _ _)
          have HB7W:=Aside0.mk (show Below w7.heap.size w7 W7 from by rw[←hW7];exact below_alloc (Below.refl _ _) _)
          have HC7W:=Aside0.mk ((CkM.cut HC7.out).below HB7W.out)
          have HB7:=Aside0.mk (below_step HB7.out HB7W.out)
          clear hW7 hb15 HB7W HC7
          obtain⟨la1,hla1⟩ : ∃l,la+p=l:=⟨_,rfl⟩
          obtain⟨la2,hla2⟩ : ∃l,la1+3=l:=⟨_,rfl⟩
          have hlaE:la=i*(p+3):=HI.out.2.2.2.1
          have hla0:0≤la∧la≤90:=⟨HI.out.2.2.2.2.1,HI.out.2.2.2.2.2⟩
          have hla3:la2=(i+1)*(p+3):=by rw[Int.add_mul,←hlaE];omega
          have hwl1:IntKind.i64.wrap (la+p)=la1:=by rw[IntKind.wrap_i64];omega
          have hwl2:IntKind.i64.wrap (la1+3)=la2:=by rw[IntKind.wrap_i64];omega
          have hlb:0≤la2∧la2≤90:=by
            have h1:=HI.out.2.1
            have h2:(i+1)*(p+3)≤10*9:=by
              calc (i+1)*(p+3)≤10*(p+3):=Int.mul_le_mul_of_nonneg_right (by have:=HNP.out;omega) (by omega)
                _≤10*9:=by omega
            omega
          obtain⟨S,e1,⟨ch2,kp2,e2⟩,e3,e4,e5,e6⟩:=cm_reset (m:=⟨i+1+1,la2,i+1+1,0,3,8,2⟩) HCS.out ⟨by omega,hp6⟩ ⟨hi0,by omega⟩ hla3 ⟨by show 1≤i+1+1;omega,by show i+1+1≤1073741824;omega⟩
          have hmS:anewM S ⟨i+1,la,i+1,0,3,8,2⟩=⟨i+1+1,la2,i+1+1,0,3,8,2⟩:=by unfold anewM;rw[e3,←hla3]
          have HID8:=Aside0.mk e5
          have HLO8:=Aside0.mk e6
          have HRS:=Aside0.mk (reset_calls a (Cut (fun j=>w0.heap.size≤j) w7.heap.size) cp bp bm sp lp pp dp qp mp 8 2 BC ⟨i+1,la,i+1,0,3,8,2⟩ S _ 10 ch2 kp2 W7 HC7W.out HCS.out.ts e1 e2 (by obtain⟨c,k,ho⟩:=HCS.out.ok;exact ho.g.loose.mono (by omega)) e4 (by omega) (by rw[hmS];exact⟨⟨by show 1≤i+1+1;omega,by show i+1+1≤1073741824;omega⟩,⟨hlb.1,by show la2≤1073741824;omega⟩,⟨by show 1≤i+1+1;omega,Int.le_refl _⟩,.inl rfl,⟨by show (1:Int)≤3;decide,by show (3:Int)≤32;decide⟩,⟨by show (1:Int)≤8;decide,by show (8:Int)≤64;decide⟩,⟨by show (1:Int)≤2;decide,by show (2:Int)≤8;decide⟩⟩) ⟨⟨by show 1≤i+1;omega,by show i+1≤1073741824;omega⟩,⟨hla0.1,by show la≤1073741824;omega⟩,⟨by show 1≤i+1;omega,Int.le_refl _⟩,.inl rfl,⟨by show (1:Int)≤3;decide,by show (3:Int)≤32;decide⟩,⟨by show (1:Int)≤8;decide,by show (8:Int)≤64;decide⟩,⟨by show (1:Int)≤2;decide,by show (2:Int)≤8;decide⟩⟩ (HS1.out.below HB7.out) (OutAll.sub HO.out fun k hk=>hk.1))
          rw[hmS] at HRS
          have HLA:=Aside0.mk (And.intro hla3 hlb)
          clear e1 e2 e3 e4 e5 e6 hmS hla1 hla2 hlaE hla0 hla3 hlb
          go_upto_region 24 with fail
          rw[HW7.out.1,HW7.out.2]
          go_wp2_with fail
          refine HRS.out.mono ?_
          rintro e w8 ⟨rfl,q2,hp⟩
          have HC8:=Aside0.mk (CkM.mono hp.1 fun k hk=>(show w0.heap.size≤k from by
            have h1:=HB7.out.size
            rcases hk with hk | ⟨h2,_⟩
            · exact hk.1
            · omega))
          have HB8:=Aside0.mk (HB7.out.trans (hp.2.below (fun k hk=>hk.1) HB7.out.size))
          have HM8:=Aside0.mk (hp.2.at HM15.out fun hc=>by have:=hc.2;have:=HW7.out.2;omega)
          clear hp HRS HC7W HB7 HM15
          generalize hBR:({ BC with F:=resF BC.F S ⟨i+1+1,la2,i+1+1,0,3,8,2⟩ }:BSt)=BR at HC8
          have HID:=Aside0.mk (show IdS (1+3+8:Int).toNat p (i+1) BR.F by rw[←hBR];exact HID8.out)
          have HLO:=Aside0.mk (show ∀s∈BR.F.S.d.l,s.loose=[] by rw[←hBR];exact HLO8.out)
          clear hBR HID8 HLO8 HCS
          obtain⟨⟨k0,hcl⟩,b0,hbl⟩:=ck_box HC8.out
          have HSP:=Aside0.mk (show Calls Tryz.prog 17 #[.pointer (some ⟨sp,0,none⟩)] w8 fun e w'=>e = .returned (.tuple #[.int .i64 48,.int .i64 0])∧Below w8.heap.size w8 w' from by
            have:=ckspace w0.heap.size cp bp bm sp lp pp dp q2 mp 8 2 BR _ w8 HC8.out
            rw[HID.out.free,HID.out.kept] at this
            exact this)
          go_wp2_with fail
          refine HSP.out.mono ?_
          rintro e w8b ⟨rfl,hb⟩
          have HC8b:=Aside0.mk (HC8.out.below hb)
          have HB8b:=Aside0.mk (below_step HB8.out hb)
          have HM8b:=Aside0.mk ((hb.block _ (heap_lt HM8.out)).trans HM8.out)
          clear k0 hcl b0 hbl HSP hb HC8 HB8 HM8
          have HMA:=Aside0.mk (show Calls Tryz.prog 41 #[.pointer (some ⟨cp,0,none⟩)] w8b fun e w'=>e = .returned (.agg #[.int .i64 (i+1+1),.int .i64 la2,.int .i64 (i+1+1),.int .i64 0,.int .i64 3,.int .i64 8,.int .i64 2])∧Below w8b.heap.size w8b w' from master_calls HC8b.out)
          go_wp2_with fail
          refine HMA.out.mono ?_
          rintro e w9 ⟨rfl,hb⟩
          obtain⟨W9,hW9⟩ : ∃W,w9.alloc (.cells #[.int .i64 (i+1+1),.int .i64 la2,.int .i64 (i+1+1),.int .i64 0,.int .i64 3,.int .i64 8,.int .i64 2] 84)=W:=⟨_,rfl⟩
          obtain⟨b18,hb18⟩ : ∃b,w9.heap.size=b:=⟨_,rfl⟩
          have HW9:=Aside0.mk (And.intro hW9 hb18)
          have HBW:=Aside0.mk (show Below w8b.heap.size w8b W9 from by rw[←hW9];exact below_step hb (below_alloc (Below.refl _ _) _))
          have HM18:=Aside0.mk (show W9.heap[b18]? = some (.cells #[.int .i64 (i+1+1),.int .i64 la2,.int .i64 (i+1+1),.int .i64 0,.int .i64 3,.int .i64 8,.int .i64 2] 84 (0,0)) from by rw[←hW9,←hb18];exact heap_alloc_new _ _)
          have HC9:=Aside0.mk (HC8b.out.below HBW.out)
          have HB9:=Aside0.mk (below_step HB8b.out HBW.out)
          have HM9:=Aside0.mk ((HBW.out.block _ (heap_lt HM8b.out)).trans HM8b.out)
          clear hb HMA HC8b HB8b HM8b HBW hW9 hb18
          go_upto_region 29 with fail
          rw[HW9.out.1,HW9.out.2]
          obtain⟨x0,x1,x2,x3,x4,x5,x6⟩:=mst_cells HM18.out
          obtain⟨z0,z1,z2,z3,z4,z5,z6⟩:=mst_cells HM9.out
          have hxl:=heap_lt HM18.out
          have hzl:=heap_lt HM9.out
          have hwi:IntKind.i64.wrap (i+1+1)=i+1+1:=by rw[IntKind.wrap_i64];omega
          have hwi1:IntKind.i64.wrap (i+1)=i+1:=by rw[IntKind.wrap_i64];omega
          have HLS:=Aside0.mk (ckloose w0.heap.size cp bp bm sp lp pp dp q2 mp 8 2 BR _ W9 HC9.out HLO.out)
          go_wp2_with fail
          refine HLS.out.mono ?_
          rintro e w10 ⟨A,c,rfl,hb⟩
          have HC10:=Aside0.mk (HC9.out.below hb)
          have HB10:=Aside0.mk (below_step HB9.out hb)
          clear hb HLS HC9 HB9 x0 x1 x2 x3 x4 x5 x6 z0 z1 z2 z3 z4 z5 z6 hxl hzl
          go_wp2_with fail
          go_roundg ((n - i).toNat)
          case measure=>have:=HI.out;omega
          case rel=>exact⟨la2,i+1,BR,q2,rfl,rfl,⟨by omega,by omega,by omega,HLA.out.1,HLA.out.2.1,HLA.out.2.2⟩,HID,HC10,HB10⟩
    · have hin:i=n:=by have:=HI.out;omega
      subst hin
      go_wp2_with fail
      refine HBE.out.mono ?_
      rintro e w3 ⟨rfl,hck,hb⟩
      have HC3:=Aside0.mk hck
      have HB3:=Aside0.mk (HB.out.trans hb)
      have HR:=Aside0.mk (pu_read HPU.out)
      clear hck hb k0 hcl b0 hbl HBE HID HC HB HPU
      have hwn1:IntKind.i64.wrap (i - 1)=i - 1:=by rw[IntKind.wrap_i64];omega
      have hwn2:IntKind.i64.wrap (10*(i - 1))=10*(i - 1):=by rw[IntKind.wrap_i64];omega
      go_wp2_with fail
      go_loopg [19] (p.toNat+1) (fun kq v19 w' => ∃(k:Int) (B:BSt),v19 = .int .i64 k∧Aside0 (0≤k∧k≤p∧(kq:Int)=p+1 - k)∧Aside0 (RSt (1+3+8:Int).toNat k.toNat (fun j=>if 0≤j∧j<p∧0<i then some (10*(i - 1)+j) else none) B.F)∧Aside0 (CkM (fun j=>w0.heap.size≤j) w' cp bp bm sp lp pp dp qp mp 8 2 B ⟨i+1,la,i+1,0,3,8,2⟩)∧Aside0 (Below w0.heap.size w0 w'))
      case atStart=>exact⟨0,{ B with F:=beginF B.F 0 },rfl,⟨by omega,by omega,by omega⟩,HR,HC3,HB3⟩
      case round=>
        clear HR HC3 HB3
        obtain⟨k,B,rfl,HK,HR,HC,HB⟩:=hrel
        have hk0:0≤k:=HK.out.1
        obtain⟨⟨k0,hcl⟩,b0,hbl⟩:=ck_box HC.out
        by_cases hkl:k<p
        · have hw2:IntKind.i64.wrap (10*(i - 1)+k)=10*(i - 1)+k:=by rw[IntKind.wrap_i64];omega
          have hw3:IntKind.i64.wrap (k+1)=k+1:=by rw[IntKind.wrap_i64];omega
          have hi1:0<i:=by have:=HNP.out;omega
          have HGE:=Aside0.mk (by
            have:=pg_get HC.out HB.out.size HR.out (by omega) hk0 (by omega) (HS1.out.below HB.out) HO.out
            simp only[if_pos (show 0≤k∧k<p∧0<i from⟨hk0,hkl,hi1⟩),Option.getD_some,Option.isSome_some] at this
            exact this)
          go_wp2_with fail
          refine HGE.out.mono ?_
          rintro e w4 ⟨rfl,B4,hr4,hc4,hb4⟩
          have HR4:=Aside0.mk (show RSt (1+3+8:Int).toNat (k+1).toNat (fun j=>if 0≤j∧j<p∧0<i then some (10*(i - 1)+j) else none) B4.F from by rw[show (k+1).toNat=k.toNat+1 by omega];exact hr4)
          have HC4:=Aside0.mk hc4
          have HB4:=Aside0.mk (HB.out.trans hb4)
          clear hr4 hc4 hb4 k0 hcl b0 hbl HGE
          go_wp2_with fail
          go_roundg (gk - 1)
          case measure=>have:=HK.out;omega
          case rel=>exact⟨k+1,B4,rfl,⟨by omega,by omega,by have:=HK.out;omega⟩,HR4,HC4,HB4⟩
        · go_wp2_with fail
          go_ret
          exact⟨rfl,below_step HBA.out HB.out⟩
end Go.Proofs.YtaplpeoikebedaaGreatDoor.WalkCkptResets
