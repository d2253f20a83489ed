/- Joined texts: WalkCkptRoom. No condition but what each says. -/
import Derived.Test.YtaplpeoikebedaaGreatDoorY40
import Derived.Test.YtaplpeoikebedaaGreatDoorY41
import Derived.Test.YtaplpeoikebedaaGreatDoorY42
import Derived.Deep.DeepCutAuto
set_option maxHeartbeats 8000000
set_option maxRecDepth 100000
set_option linter.unusedVariables false
set_option linter.unusedSimpArgs false
namespace Go.Proofs.YtaplpeoikebedaaGreatDoor.WalkCkptRoom
open Go.RowKit Go.Maps YtaplpeoikebedaaGreatDoorW.PrintWords YtaplpeoikebedaaGreatDoorW.PrintLast YtaplpeoikebedaaGreatDoorW.PrintMore
open See Mem Page PageL Disk RecD Dirty Wal Pool2 SysD SysM Num Pager StoreD StoreF StoreI StoreJ StoreK StoreW TransT SpaceT FwdM FwdP First17 BackM BackN BackE RefF BackQ BackP MasC MasT CkptM CkptK CkptW CkptC CkptN CkptX CkptZ First19 ImgT RoomK
attribute [local go_sem] max2_imax min2_imin max_two min_two
section
variable {n cp bp bm sp lp pp dp qp mp:Nat}{blocks frames:Int}{B:BSt}{m:Mst}{w:World}{a:Nat→Addr}
theorem rm_putw {N k:Nat}(h:CkM (fun j=>n≤j) w cp bp bm sp lp pp dp qp mp blocks frames B m)(hn:n≤w.heap.size)(hk:RmS N k k B.F)(hk3:k≤30)(hS:SentsAll w a)(hO:OutAll (fun j=>n≤j) a) :
    Calls Tryz.prog 33 #[.pointer (some ⟨bp,0,none⟩),.int .i64 0,.int .i64 k,.int .i64 1,.int .i64 0] w fun e w' => ∃o b ev B',e = .returned (.tuple #[.int .i64 o,.bool b,ev])∧CkM (fun j=>n≤j) w' cp bp bm sp lp pp dp qp mp blocks frames B' m∧Below n w w'∧((ev = .nilIface∧RmS N (k+1) (k+1) B'.F)∨(∃x,ev = .iface 333 (.pointer (some x))∧CkS B'.F)):=by
  obtain⟨R,h⟩:=h
  obtain⟨s1,s2,s3⟩:=hk.same
  have hkl:=hk.kl
  have h0:OutAll R a:=OutAll.sub hO fun j hj=>(h.r j hj).1
  rcases rm_put hk (key:=(k:Int)) (v:=1) ⟨by omega,by omega⟩ (by unfold is64;omega) 0 with ⟨F',old,had,e1,e2⟩ | e1 | e1
  · obtain⟨ch,hok⟩:=hk.ok
    refine (bput_calls a R bp bm sp lp pp dp qp mp blocks frames B 0 k 1 0 N k ch _ (fun _=>0) F' _ _ w h.b e1 hok hk.kok rfl hS h0 (by decide) (by rw[s1];decide) (by rw[s1];decide) (by rw[s2];exact hk.has_) (by omega) (by omega) (by omega) (by omega) (by omega) (by omega) (by unfold is64;omega)).mono ?_
    rintro e w' ⟨rfl,hp⟩
    obtain⟨q1,q2⟩:=ck_up (h.bk hp) hn
    exact⟨_,_,_,⟨F',B.sv,B.nu⟩,rfl,q1,q2,.inl ⟨rfl,e2⟩⟩
  · obtain⟨ch,hok⟩:=hk.ok
    refine (bput_full a R bp bm sp lp pp dp qp mp blocks frames B 0 k 1 0 N k ch _ (fun _=>0) _ w h.b e1 hok hk.kok rfl hS h0 (by decide) (by rw[s1];decide) (by rw[s1];decide) (by rw[s2];exact hk.has_) (by omega) (by omega) (by omega) (by omega) (by omega) (by omega) (by unfold is64;omega)).mono ?_
    rintro e w' ⟨rfl,hp⟩
    obtain⟨q1,q2⟩:=ck_up (h.bk hp) hn
    exact⟨_,_,_,⟨takesF B.F 0 k 2 0,B.sv,B.nu⟩,rfl,q1,q2,.inr ⟨_,rfl,rm_ck (rm_takes hk ⟨by omega,by omega⟩ 0) (by omega)⟩⟩
  · have ht:=rm_takes hk (key:=(k:Int)) ⟨by omega,by omega⟩ 0
    obtain⟨ch,hok,hlen⟩:=rm_abort hk
    refine (bput_room a R bp bm sp lp pp dp qp mp blocks frames B 0 k 1 0 N k ch (fun _=>2) (fun _=>0) 1 w h.b e1 hok hk.kok rfl hS h0 (by decide) (by rw[s1];decide) (by rw[s1];decide) s2 hk.has_ rfl (fun _=>by omega) (by rw[s3];decide) (by omega) (by omega) (by omega) (by omega) (by omega) (by omega) (by unfold is64;omega)).mono ?_
    rintro e w' ⟨rfl,F',hF,hp⟩
    obtain⟨q1,q2⟩:=ck_up (h.bk hp) hn
    exact⟨_,_,_,_,rfl,q1,q2,.inr ⟨_,rfl,rm_ab ht hF hlen (by omega)⟩⟩end
theorem ckspace2 (n cp bp bm sp lp pp dp qp mp:Nat)(blocks frames:Int)(B:BSt)(m:Mst)(w:World)(h:CkM (fun k=>n≤k) w cp bp bm sp lp pp dp qp mp blocks frames B m) :
    Calls Tryz.prog 17 #[.pointer (some ⟨sp,0,none⟩)] w fun e w'=>e = .returned (.tuple #[.int .i64 B.F.free,.int .i64 B.F.kept])∧Below w.heap.size w w':=by
  obtain⟨R,h⟩:=h
  obtain⟨Rb,sl,hb⟩:=h.b
  exact space_calls Rb sp lp pp dp qp mp blocks frames B.F w hb.f
theorem cktxns (n cp bp bm sp lp pp dp qp mp:Nat)(blocks frames:Int)(B:BSt)(m:Mst)(w:World)(h:CkM (fun k=>n≤k) w cp bp bm sp lp pp dp qp mp blocks frames B m) :
    Calls Tryz.prog 28 #[.pointer (some ⟨sp,0,none⟩)] w fun e w' => ∃A c,e = .returned (.slice A B.F.ts.length c)∧Below w.heap.size w w':=by
  obtain⟨R,h⟩:=h
  obtain⟨Rb,sl,hb⟩:=h.b
  refine (txns_calls Rb sp lp pp dp qp mp blocks frames B.F w hb.f).mono ?_
  rintro e w' ⟨v,rfl,hv,hbw⟩
  obtain⟨A,c,rfl,_⟩:=ow_slice hv.1
  exact⟨A,c,rfl,hbw⟩
theorem ckimage (n cp bp bm sp lp pp dp qp mp:Nat)(blocks frames:Int)(B:BSt)(m:Mst)(w:World)(h:CkM (fun k=>n≤k) w cp bp bm sp lp pp dp qp mp blocks frames B m) :
    Calls Tryz.prog 42 #[.pointer (some ⟨dp,0,none⟩)] w fun e w' => ∃A k c,e = .returned (.slice A k c)∧SlB w' w.heap.size (.slice A k c) (B.F.S.d.l.map Sec.fast)∧Below w.heap.size w w':=by
  obtain⟨R,h⟩:=h
  obtain⟨Rb,sl,hb⟩:=h.b
  refine (image_disk _ dp B.F.S.d w hb.f.sys.dsk).mono ?_
  rintro e w' ⟨v,rfl,hv,hbw⟩
  obtain⟨vs,h1,h2,h3⟩:=hv
  obtain⟨A,c,rfl,_⟩:=ow_slice h1
  exact⟨A,_,c,rfl,⟨vs,h1,h2,h3⟩,hbw⟩
theorem ckfew (n cp bp bm sp lp pp dp qp mp:Nat)(blocks frames:Int)(B:BSt)(m:Mst)(w:World)(h:CkM (fun k=>n≤k) w cp bp bm sp lp pp dp qp mp blocks frames B m):(B.F.S.d.l.map Sec.fast).length≤100000:=by
  obtain⟨R,h⟩:=h
  obtain⟨Rb,sl,hb⟩:=h.b
  obtain⟨g,cap,rs,hd⟩:=hb.f.sys.dsk
  rw[List.length_map]
  have:=hd.few
  omega
theorem samesec_refl (b1 b2:Nat)(u v:Value)(ss:List (List Int))(w:World)(hx:SlB w b1 u ss)(hy:SlB w b2 v ss)(hl:ss.length≤100000) :
    Calls Tryz.prog 45 #[u,v] w fun e w'=>e = .returned (.bool true)∧Below w.heap.size w w':=by
  have:=samesectors_calls b1 b2 u v ss ss w hx hy hl hl
  rw[decide_eq_true rfl] at this
  exact this
structure RoomF (a:Nat→Addr) (n cp bp sp dp:Nat) (bl:Int) (nt nd:Nat) (fr kp:Int) (ss:List (List Int)) (V:World):Prop where
  bd:nt≤1∧nd≤4∧0≤fr∧fr≤1073741824∧ss.length≤100000
  c0:V.cell? ⟨cp,0,none⟩=some (.pointer (some ⟨bp,0,none⟩))
  b0:V.cell? ⟨bp,0,none⟩=some (.pointer (some ⟨sp,0,none⟩))
  tx:Calls Tryz.prog 28 #[.pointer (some ⟨sp,0,none⟩)] V fun e w' => ∃A c,e = .returned (.slice A nt c)∧Below V.heap.size V w'
  space : ∀V',Below V.heap.size V V'→Calls Tryz.prog 17 #[.pointer (some ⟨sp,0,none⟩)] V' fun e w'=>e = .returned (.tuple #[.int .i64 fr,.int .i64 kp])∧Below V'.heap.size V' w'
  mas : ∀V',Below V.heap.size V V'→Calls Tryz.prog 41 #[.pointer (some ⟨cp,0,none⟩)] V' fun e w'=>e = .returned (.agg #[.int .i64 1,.int .i64 0,.int .i64 1,.int .i64 0,.int .i64 4,.int .i64 bl,.int .i64 4])∧Below V'.heap.size V' w'
  img : ∀V',Below V.heap.size V V'→Calls Tryz.prog 42 #[.pointer (some ⟨dp,0,none⟩)] V' fun e w' => ∃A k c,e = .returned (.slice A k c)∧SlB w' V'.heap.size (.slice A k c) ss∧Below V'.heap.size V' w'
  no : ∀V',Below V.heap.size V V'→fr<((2+nt+nd:Nat):Int)→Calls Tryz.prog 43 #[.pointer (some ⟨cp,0,none⟩)] V' fun e w'=>e = .returned (.iface 333 (.pointer (some (a 8))))∧Below V'.heap.size V' w'
  yes : ∀V',Below V.heap.size V V'→((2+nt+nd:Nat):Int)≤fr→Calls Tryz.prog 43 #[.pointer (some ⟨cp,0,none⟩)] V' fun e w'=>e = .returned .nilIface∧Below n V' w'∧w'.cell? ⟨cp,0,none⟩=some (.pointer (some ⟨bp,0,none⟩))∧w'.cell? ⟨bp,0,none⟩=some (.pointer (some ⟨sp,0,none⟩))∧cp<w'.heap.size∧bp<w'.heap.size ∧
    (∀W,Below w'.heap.size w' W→Calls Tryz.prog 17 #[.pointer (some ⟨sp,0,none⟩)] W fun e x=>e = .returned (.tuple #[.int .i64 (fr - ((2+nt+nd:Nat):Int)),.int .i64 kp])∧Below W.heap.size W x) ∧
    ∃ck,0<ck∧∀W,Below w'.heap.size w' W→Calls Tryz.prog 41 #[.pointer (some ⟨cp,0,none⟩)] W fun e x=>e = .returned (.agg #[.int .i64 1,.int .i64 0,.int .i64 1,.int .i64 ck,.int .i64 4,.int .i64 bl,.int .i64 4])∧Below W.heap.size W x
theorem room_facts {n cp bp bm sp lp pp dp qp mp:Nat}{bl:Int}{B:BSt}{w:World}{a:Nat→Addr}(h:CkM (fun j=>n≤j) w cp bp bm sp lp pp dp qp mp bl 4 B ⟨1,0,1,0,4,bl,4⟩)(hn:n≤w.heap.size)(hcs:CkS B.F)(hb:2≤bl∧bl≤10)(hS:SentsAll w a)(hO:OutAll (fun j=>n≤j) a) : ∃nt nd fr kp ss,RoomF a n cp bp sp dp bl nt nd fr kp ss w:=by
  obtain⟨N,mm,ch,kk,hok,hmm⟩:=hcs.ok
  have hr:=hok.g.room
  have hlk:=hok.g.lok
  have hl1:=hlk.base
  have hl2:=hlk.last
  have hlast:B.F.S.l.last=B.F.S.l.base+(B.F.S.l.l.length:Int):=rfl
  have hfr:0≤B.F.free∧B.F.free≤1073741824:=by
    have:B.F.S.l.room≤1073741824:=by unfold Lg.room;omega
    omega
  obtain⟨⟨k0,_⟩,b0,_⟩:=ck_box h
  refine⟨B.F.ts.length,B.F.S.t.length,B.F.free,B.F.kept,B.F.S.d.l.map Sec.fast,⟨hcs.one,hcs.few,hfr.1,hfr.2,ckfew n cp bp bm sp lp pp dp qp mp bl 4 B _ w h⟩,k0,b0,cktxns n cp bp bm sp lp pp dp qp mp bl 4 B _ w h,fun V' hV=>ckspace2 n cp bp bm sp lp pp dp qp mp bl 4 B _ V' (h.below hV),fun V' hV=>master_calls (h.below hV),fun V' hV=>ckimage n cp bp bm sp lp pp dp qp mp bl 4 B _ V' (h.below hV),fun V' hV hlt=>ckpt_full a _ cp bp bm sp lp pp dp qp mp bl 4 B _ V' (h.below hV) hfr hlt (hS.below hV),fun V' hV hle => ?_⟩
  refine (ckpt_calls a _ cp bp bm sp lp pp dp qp mp bl 4 B _ N mm ch kk V' (h.below hV) hok hcs.st hle ⟨⟨by show (1:Int)≤1;decide,by show (1:Int)≤1073741824;decide⟩,⟨by show (0:Int)≤0;decide,by show (0:Int)≤1073741824;decide⟩,⟨by show (1:Int)≤1;decide,by show (1:Int)≤1;decide⟩,.inl rfl,⟨by show (1:Int)≤4;decide,by show (4:Int)≤32;decide⟩,⟨by show 1≤bl;omega,by show bl≤64;omega⟩,⟨by show (1:Int)≤4;decide,by show (4:Int)≤8;decide⟩⟩ (by show 0≤B.F.S.l.last;omega) (by omega) (hS.below hV) hO).mono ?_
  rintro e w' ⟨rfl,hp⟩
  have hs:=hV.size
  obtain⟨q1,q2⟩:=ck_up hp (Nat.le_trans hn hs)
  obtain⟨⟨z0,z1⟩,y0,y1⟩:=ck_box q1
  exact⟨rfl,q2,z0,y0,z1,y1,fun W hW=>ckspace2 n cp bp bm sp lp pp dp qp mp bl 4 _ _ W (q1.below hW),B.F.S.l.last+1,by omega,fun W hW=>master_calls (q1.below hW)⟩
theorem room_calls (p0 b0':Int)(a:Nat→Addr)(w:World)(hs:SentsK (List.range 18) w a) :
    Calls Tryz.prog 10 #[.int .i64 p0,.int .i64 b0'] w fun e w'=>e = .returned (.bool true)∧Below w.heap.size w w':=by
  have HS:=Aside0.mk hs.all
  obtain⟨p,hp⟩ : ∃k,p0 % 30=k:=⟨_,rfl⟩
  obtain⟨bb,hbb⟩ : ∃k,b0' % 9=k:=⟨_,rfl⟩
  have HPP:=Aside0.mk hp
  have HBB:=Aside0.mk hbb
  have hpb:0≤p∧p<30:=by omega
  have hbr:0≤bb∧bb<9:=by omega
  obtain⟨bl,hbl0⟩ : ∃k,bb+2=k:=⟨_,rfl⟩
  have hwb:IntKind.i64.wrap (bb+2)=bl:=by rw[IntKind.wrap_i64];omega
  have HBL:=Aside0.mk (show 2≤bl∧bl≤10 by omega)
  have HPB:=Aside0.mk hpb
  clear hs hp hbb hpb hbr hbl0
  go_enter Tryz.func10,Tryz.ntmps10
  go_wp2_with fail
  refine (first19_calls a _ HS.out).mono ?_
  rintro e w0 ⟨rfl,hb⟩
  have HBA:=Aside0.mk hb
  have HS1:=Aside0.mk (HS.out.below hb)
  have HO:=Aside0.mk (out_all HS1.out)
  clear hb
  go_wp2_with fail
  refine (num_at _ _ _ (by omega) (by omega) HPP.out _).mono ?_
  rintro e w1 ⟨rfl,rfl⟩
  go_wp2_with fail
  refine (num_at _ _ _ (by omega) (by omega) HBB.out _).mono ?_
  rintro e w1 ⟨rfl,rfl⟩
  go_wp2_with fail
  refine (made19_calls 4 bl 4 1 (by omega) (by have:=HBL.out;omega) (by omega) w0).mono ?_
  rintro e w2 ⟨cp,bp,bm,sp,lp,pp,dp,qp,mp,q,rfl,hck,hb⟩
  have HCK:=Aside0.mk hck
  have HB:=Aside0.mk hb
  have HOK:=Aside0.mk (new_ok (P:=4) (blocks:=bl) (frames:=4) (sess:=1) 0 (by omega) (by have:=HBL.out;omega) (by omega))
  have HRM:=Aside0.mk (rm_start bl HBL.out)
  obtain⟨⟨k0,hcl⟩,b0,hbl⟩:=ck_box hck
  have HBE:=Aside0.mk (ckbegin a w0.heap.size cp bp bm sp lp pp dp qp mp bl 4 _ _ _ 0 _ _ w2 HCK.out HB.out.size HOK.out (HS1.out.below HB.out) HO.out (by show (0:Int)<1;decide) (by show (1:Int)≤1000;decide) rfl (by show (0:Int)<60000;decide) (by show 3≤bl*6;have:=HBL.out;omega))
  clear hck hb
  go_wp2_with fail
  refine HBE.out.mono ?_
  rintro e w3 ⟨rfl,hck,hb⟩
  have HCK3:=Aside0.mk hck
  have HB3:=Aside0.mk (HB.out.trans hb)
  clear hck hb k0 hcl b0 hbl HBE HCK HB HOK
  go_wp2_with fail
  go_loopg [9] (p.toNat+1) (fun kq v9 w' => ∃(k:Int) (B:BSt),v9 = .int .i64 k∧Aside0 (0≤k∧k≤p∧(kq:Int)=p+1 - k)∧Aside0 (RmS (1+4+bl:Int).toNat k.toNat k.toNat B.F)∧Aside0 (CkM (fun j=>w0.heap.size≤j) w' cp bp bm sp lp pp dp qp mp bl 4 B ⟨1,0,1,0,4,bl,4⟩)∧Aside0 (Below w0.heap.size w0 w'))
  case atStart=>exact⟨0,{ newB (newF 4 bl 4 1) with F:=beginF (newF 4 bl 4 1) 0 },rfl,⟨by omega,HPB.out.1,by have:=HPB.out;omega⟩,HRM,HCK3,HB3⟩
  case round=>
    clear HRM HCK3 HB3
    obtain⟨k,B,rfl,HK,HRM,HC,HB⟩:=hrel
    have hk0:0≤k:=HK.out.1
    have hk30:k≤30:=by have:=HK.out;have:=HPB.out;omega
    obtain⟨⟨k0,hcl⟩,b0,hbl⟩:=ck_box HC.out
    by_cases hkl:k<p
    case' pos=>
      have hw3:IntKind.i64.wrap (k+1)=k+1:=by rw[IntKind.wrap_i64];omega
      have hkk:((k.toNat:Nat):Int)=k:=by omega
      have HPT:=Aside0.mk (by
        have:=rm_putw HC.out HB.out.size HRM.out (by omega) (HS1.out.below HB.out) HO.out
        rw[hkk] at this
        exact this)
      go_wp2_with fail
      refine HPT.out.mono ?_
      rintro e w4 ⟨o,b,ev,B4,rfl,hc4,hb4,hcase⟩
      have HC4:=Aside0.mk hc4
      have HB4:=Aside0.mk (HB.out.trans hb4)
      clear hc4 hb4 k0 hcl b0 hbl HPT HC HB HRM
      rcases hcase with ⟨rfl,hrm⟩ | ⟨x,rfl,hcs⟩
      case' inl=>
        have HR4:=Aside0.mk (show RmS (1+4+bl:Int).toNat (k+1).toNat (k+1).toNat B4.F from by rw[show (k+1).toNat=k.toNat+1 by omega];exact hrm)
        clear hrm
        go_wp2_with fail
        go_roundg (gk - 1)
        case measure=>have:=HK.out;omega
        case rel=>exact⟨k+1,B4,rfl,⟨by omega,by omega,by have:=HK.out;omega⟩,HR4,HC4,HB4⟩
      case' inr=>
        have HCS:=Aside0.mk hcs
        clear hcs
        obtain⟨nt,nd,fr,kp,ss,hF⟩:=room_facts HC4.out HB4.out.size HCS.out HBL.out (HS1.out.below HB4.out) HO.out
        have HF:=Aside0.mk hF
        have HV:=Aside0.mk HB4.out
        generalize w4=V at HF HV ⊢
        clear hF HC4 HB4 HCS
        go_upto_region 14 with fail
    case' neg=>
      obtain⟨nt,nd,fr,kp,ss,hF⟩:=room_facts HC.out HB.out.size (rm_ck HRM.out (by omega)) HBL.out (HS1.out.below HB.out) HO.out
      have HF:=Aside0.mk hF
      have HV:=Aside0.mk HB.out
      clear k0 hcl b0 hbl
      generalize wr=V at HF HV ⊢
      clear hF HC HB HRM
      go_upto_region 14 with fail
    all_goals
      obtain⟨bd1,bd2,bd3,bd4,bd5⟩:=HF.out.bd
      have c0:=HF.out.c0
      have b0:=HF.out.b0
      have hcl:=World.block_lt_of_cell? _ _ c0
      have hbl:=World.block_lt_of_cell? _ _ b0
      go_wp2_with fail
      refine HF.out.tx.mono ?_
      rintro e v1 ⟨A1,c1,rfl,hb⟩
      have H1:=Aside0.mk hb
      have c0':=pw_cell_below hb c0
      have b0':=pw_cell_below hb b0
      clear hb c0 b0 hcl hbl
      have hcl:=World.block_lt_of_cell? _ _ c0'
      have hbl:=World.block_lt_of_cell? _ _ b0'
      go_wp2_with fail
      refine (HF.out.space v1 H1.out).mono ?_
      rintro e v2 ⟨rfl,hb⟩
      have H2:=Aside0.mk (below_step H1.out hb)
      clear hb c0' b0' hcl hbl
      go_wp2_with fail
      refine (HF.out.mas v2 H2.out).mono ?_
      rintro e v3 ⟨rfl,hb⟩
      have H3:=Aside0.mk (below_step H2.out hb)
      obtain⟨V3,hV3⟩ : ∃W,v3.alloc (.cells #[.int .i64 1,.int .i64 0,.int .i64 1,.int .i64 0,.int .i64 4,.int .i64 bl,.int .i64 4] 84)=W:=⟨_,rfl⟩
      obtain⟨b16,hb16⟩ : ∃b,v3.heap.size=b:=⟨_,rfl⟩
      have HX:=Aside0.mk (show V3.heap[b16]? = some (.cells #[.int .i64 1,.int .i64 0,.int .i64 1,.int .i64 0,.int .i64 4,.int .i64 bl,.int .i64 4] 84 (0,0)) from by rw[←hV3,←hb16];exact heap_alloc_new _ _)
      have H3b:=Aside0.mk (show Below V.heap.size V V3 from by rw[←hV3];exact below_step H3.out (below_alloc (Below.refl _ _) _))
      have HE:=Aside0.mk (And.intro hV3 hb16)
      clear hb hV3 hb16 H3
      go_upto_region 17 with fail
      rw[HE.out.1,HE.out.2]
      go_wp2_with fail
      refine (HF.out.img V3 H3b.out).mono ?_
      rintro e v4 ⟨A4,k4,c4,rfl,hsl,hb⟩
      have H4:=Aside0.mk (below_step H3b.out hb)
      have HX4:=Aside0.mk ((hb.block _ (heap_lt HX.out)).trans HX.out)
      have HSL:=Aside0.mk hsl
      clear hb hsl HX H3b
      by_cases hfit:((2+nt+nd:Nat):Int)≤fr
      · go_wp2_with fail
        refine (HF.out.yes v4 H4.out hfit).mono ?_
        rintro e v5 ⟨rfl,hbn,z0,y0,zl,yl,hsp,ck,hck,hmas⟩
        have HSP:=Aside0.mk hsp
        have HMA:=Aside0.mk hmas
        have HBN:=Aside0.mk ((HV.out.trans (Below.mono H4.out HV.out.size)).trans hbn)
        clear hbn hsp hmas
        obtain⟨f,hf⟩ : ∃f,fr - ((2+nt+nd:Nat):Int)=f:=⟨_,rfl⟩
        rw[hf] at HSP
        obtain⟨g,hg⟩ : ∃g,(2:Int)+(nt:Int)+(nd:Int)=g:=⟨_,rfl⟩
        have hw1:IntKind.i64.wrap (fr - f)=g:=by rw[IntKind.wrap_i64];push_cast at hf;omega
        have hw2:IntKind.i64.wrap (2+(nt:Int))=2+(nt:Int):=by rw[IntKind.wrap_i64];omega
        have hw4:IntKind.i64.wrap (2+(nt:Int)+4)=2+(nt:Int)+4:=by rw[IntKind.wrap_i64];omega
        have hd1:decide (g≥2+(nt:Int))=true:=decide_eq_true (by omega)
        have hd2:decide (g≤2+(nt:Int)+4)=true:=decide_eq_true (by omega)
        have hd3:decide (ck>0)=true:=decide_eq_true hck
        have hkk:(kp == kp)=true:=by simp
        clear hf hg
        go_wp2_with fail
        refine (HSP.out v5 (Below.refl _ _)).mono ?_
        rintro e v6 ⟨rfl,hb⟩
        have H6:=Aside0.mk hb
        have hfd:=mst_field 1 0 1 ck 4 bl 4
        clear hb z0 y0 zl yl
        go_wp2_with fail
        refine (HMA.out _ H6.out).mono ?_
        rintro e v7 ⟨rfl,hb7⟩
        have H7:=Aside0.mk (below_step H6.out hb7)
        clear hb7
        go_wp2_with fail
        go_ret
        exact⟨rfl,below_step HBA.out (HBN.out.trans (Below.mono H7.out (by have:=HBN.out.size;exact this)))⟩
      · have hlt:fr<((2+nt+nd:Nat):Int):=by omega
        have hw2:IntKind.i64.wrap (2+(nt:Int))=2+(nt:Int):=by rw[IntKind.wrap_i64];omega
        have hw4:IntKind.i64.wrap (2+(nt:Int)+4)=2+(nt:Int)+4:=by rw[IntKind.wrap_i64];omega
        have hd1:decide (fr<2+(nt:Int)+4)=true:=decide_eq_true (by push_cast at hlt;omega)
        have hkk:(kp == kp)=true:=by simp
        have hff:(fr == fr)=true:=by simp
        go_wp2_with fail
        refine (HF.out.no v4 H4.out hlt).mono ?_
        rintro e v5 ⟨rfl,hb⟩
        have H5:=Aside0.mk (below_step H4.out hb)
        have HX5:=Aside0.mk ((hb.block _ (heap_lt HX4.out)).trans HX4.out)
        have HSL5:=Aside0.mk (HSL.out.below hb)
        have c0:=pw_cell_below H5.out HF.out.c0
        have b0:=pw_cell_below H5.out HF.out.b0
        have hcl:=World.block_lt_of_cell? _ _ c0
        have hbl:=World.block_lt_of_cell? _ _ b0
        clear hb HX4 HSL
        go_wp2_with fail
        refine (HF.out.space v5 H5.out).mono ?_
        rintro e v6 ⟨rfl,hb⟩
        have H6:=Aside0.mk (below_step H5.out hb)
        have HX6:=Aside0.mk ((hb.block _ (heap_lt HX5.out)).trans HX5.out)
        have HSL6:=Aside0.mk (HSL5.out.below hb)
        have HS6:=Aside0.mk ((HS1.out.below HV.out).below H6.out)
        clear hb HX5 HSL5 c0 b0 hcl hbl
        go_upto_region 21 with fail
        have KD:=Aside0.mk (mst_cells (w:=v6.drew) HX6.out)
        have HIS:=Aside0.mk (show ∀V',Below v6.heap.size v6 V'→Calls Tryz.prog 21 #[.iface 333 (.pointer (some (a 8))),.int .i64 109] V' fun e w'=>e = .returned (.bool true)∧Below V'.heap.size V' w' from fun V' hb=>is_calls a (errv a (some 8)) 109 (.inr ⟨8,by decide,rfl,by decide⟩) 109 V' (HS6.out.below hb))
        go_region_held3 (fun w'=>w'.cell? ⟨b16,0,none⟩=some (.int .i64 1)∧w'.cell? ⟨b16,1,none⟩=some (.int .i64 0)∧w'.cell? ⟨b16,2,none⟩=some (.int .i64 1)∧w'.cell? ⟨b16,3,none⟩=some (.int .i64 0)∧w'.cell? ⟨b16,4,none⟩=some (.int .i64 4)∧w'.cell? ⟨b16,5,none⟩=some (.int .i64 bl)∧w'.cell? ⟨b16,6,none⟩=some (.int .i64 4))
          (first | with_reducible exact KD.out | with_reducible exact K7.out | with_reducible exact K8.out | with_reducible exact K9.out | with_reducible exact K10.out | with_reducible exact K11.out)
          (first
          | (go_at_call 21;refine (HIS.out v6.drew (by repeat (first | exact Below.refl _ _ | apply below_drew1))).mono ?_;rintro e v7 ⟨rfl,hb7⟩;have H7:=Aside0.mk (show Below v6.heap.size v6 v7 from below_step (by repeat (first | exact Below.refl _ _ | apply below_drew1)) hb7);have HX7:=Aside0.mk ((hb7.block b16 (heap_lt HX6.out)).trans HX6.out);have K7:=Aside0.mk (mst_cells HX7.out);clear hb7)
          | (go_at_call 41;refine (HF.out.mas v7 (below_step H6.out H7.out)).mono ?_;rintro e v8 ⟨rfl,hb8⟩;have H8:=Aside0.mk (below_step H7.out hb8);have HX8:=Aside0.mk ((hb8.block b16 (heap_lt HX7.out)).trans HX7.out);have K8:=Aside0.mk (mst_cells HX8.out);clear hb8)
          | (go_at_call 44;refine (samemaster_calls ⟨1,0,1,0,4,bl,4⟩ v8).mono ?_;rintro e v9 ⟨rfl,hb9⟩;have H9:=Aside0.mk (below_step H8.out hb9);have HX9:=Aside0.mk ((hb9.block b16 (heap_lt HX8.out)).trans HX8.out);have K9:=Aside0.mk (mst_cells HX9.out);clear hb9)
          | (go_at_call 42;refine (HF.out.img v9 (below_step H6.out H9.out)).mono ?_;rintro e v10 ⟨A10,k10,c10,rfl,hsl10,hb10⟩;have H10:=Aside0.mk (below_step H9.out hb10);have HSL10:=Aside0.mk hsl10;have HX10:=Aside0.mk ((hb10.block b16 (heap_lt HX9.out)).trans HX9.out);have K10:=Aside0.mk (mst_cells HX10.out);clear hb10 hsl10)
          | (go_at_call 45;refine (samesec_refl _ _ _ _ ss v10 (HSL6.out.below H10.out) HSL10.out bd5).mono ?_;rintro e v11 ⟨rfl,hb11⟩;have H11:=Aside0.mk (below_step H10.out hb11);have HX11:=Aside0.mk ((hb11.block b16 (heap_lt HX10.out)).trans HX10.out);have K11:=Aside0.mk (mst_cells HX11.out);clear hb11))
        all_goals
          go_wp2_with fail
          go_ret
          exact⟨rfl,below_step HBA.out (below_step HV.out (below_step H6.out H11.out))⟩
end Go.Proofs.YtaplpeoikebedaaGreatDoor.WalkCkptRoom
