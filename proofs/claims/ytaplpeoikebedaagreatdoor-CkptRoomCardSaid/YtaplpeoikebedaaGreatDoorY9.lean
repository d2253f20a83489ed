/- Joined texts: Fill, BlockB. No condition but what each says. -/
import Derived.Test.YtaplpeoikebedaaGreatDoorY7
import Derived.Test.YtaplpeoikebedaaGreatDoorY2
import Derived.Test.YtaplpeoikebedaaGreatDoorY8
import Derived.Lib.SlBytesConst
set_option maxHeartbeats 8000000
set_option maxRecDepth 100000
set_option linter.unusedVariables false
set_option linter.unusedSimpArgs false
namespace Go.Proofs.YtaplpeoikebedaaGreatDoor.Fill
open Go.RowKit YtaplpeoikebedaaGreatDoorW.PrintWords YtaplpeoikebedaaGreatDoorW.PrintLast YtaplpeoikebedaaGreatDoorW.PrintMore
open See Mem Clone Go.Proofs.YtaplpeoikebedaaGreatDoor.Cell Page PageB PageR Disk DiskN DiskW RecD
attribute [local go_sem] max2_imax min2_imin max_two min_two
theorem wpList_append_zeros {P:Program}(w:World){ops:Array Oper}{rest:List Oper}{o:Oper}{a:Act}{Q:Exit→Act→World→Prop}
    (hg:o.guard=none) (s x:Operand) (t ti:TypeId) (hop:o.op=Op.call { callee:=Callee.builtin Builtin.append,args:=#[s,x],argTypes:=#[t,ti] })
    (base:Nat) (e:TypeId) (i:TypeInfo) (z:Value) (size bytes:Nat) (ht:P.underlying t=some (.slice e)) {k:IntKind} (hti:P.underlying ti=some (.int k)) (hi:P.info? e=some i) (hz:i.zero=some z)
    (hsize:i.size=size) (hby:i.bytes=bytes) (hzs:z.cells.size=size) (hsz:0<size) (hb0:0<bytes)
    (v:Value) (n:Nat) (xs:List Value) (hs:a.eval s=v) (hown:w.ownsRow base e size v n xs) (kx:IntKind) (m:Nat) (l:Int) (hx:a.eval x = .int kx l) (hl:l=(m:Int)) (h1 : ∀u∈(Builtin.zeroCells z.cells m).toList,u.oneCell'=true)
    (hbytes:(n+m)*bytes≤140737488355328) (hbase:base≤w.heap.size)
    (hK : ∀v' w',w'.ownsRow base e size v' (n+m) (xs++(Builtin.zeroCells z.cells m).toList)→w.grownBy w' v.ownBlock→wpList P ops Q rest (a.put o.dst v') w') :
    wpList P ops Q (o :: rest) a w:=by
  subst hl
  refine wpList_plain hg fun K hK' => ?_
  obtain⟨v',w',hrun,h2,h3,_⟩:=run_append_zeros (P:=P) w base t ti o.type e i z size bytes ht hti hi hz hsize hby hzs hsz hb0 v n xs hown kx m h1 hbytes hbase
  unfold Oper.wp
  simp[execOp,hop,resolve,invoke,builtin,hs,hx,hrun,Result.andThen]
  exact hK' _ _ (hK v' w' h2 h3)
theorem wpList_append_any_rd {P:Program}(w:World){ops:Array Oper}{rest:List Oper}{o:Oper}{a:Act}{Q:Exit→Act→World→Prop}
    (hg:o.guard=none) (s x:Operand) (t:TypeId) (hop:o.op=Op.call { callee:=Callee.builtin Builtin.append,args:=#[s,x],argTypes:=#[t,t] })
    (base:Nat) (e:TypeId) (i:TypeInfo) (z:Value) (size bytes:Nat) (ht:P.underlying t=some (.slice e)) (hi:P.info? e=some i) (hz:i.zero=some z)
    (hsize:i.size=size) (hby:i.bytes=bytes) (hzs:z.cells.size=size) (hsz:0<size)
    (v:Value) (n:Nat) (xs:List Value) (hs:a.eval s=v) (hown:w.ownsRow base e size v n xs) (A:Option Addr) (m c:Nat) (news:List Value) (hx:a.eval x = .slice A m c) (hrd:Rd w e size (.slice A m c) m news) (h1 : ∀u∈news,u.oneCell'=true)
    (h63:n+m≤maxLen) (hbytes:(n+m)*bytes≤140737488355328) (hbase:base≤w.heap.size)
    (hK : ∀v' w',w'.ownsRow base e size v' (n+m) (xs++news)→w.grownBy w' v.ownBlock→wpList P ops Q rest (a.put o.dst v') w') :
    wpList P ops Q (o :: rest) a w:=by
  refine wpList_plain hg fun K hK' => ?_
  obtain⟨A',c',he,hnone,hsome⟩:=Rd.form hrd
  injection he with he1 he2 he3
  subst he1 he3
  cases A with
  | none=>
    obtain⟨rfl,rfl⟩:=hnone rfl
    have hnews:news=[]:=List.eq_nil_of_length_eq_zero (by simpa using hrd.1)
    subst hnews
    have hrun:=run_append_owned_none (P:=P) w base t o.type e i size ht hi v n xs hown
    unfold Oper.wp
    simp[execOp,hop,resolve,invoke,builtin,hs,hx,hrun,Result.andThen]
    exact hK' _ _ (hK _ _ (by simpa using hown) (World.grownBy.refl _ _))
  | some ad=>
    obtain⟨v',w',hrun,h2,h3,_⟩:=run_append_own_at (P:=P) w base t o.type e i z size bytes ht hi hz hsize hby hzs hsz v n xs hown ad m c news hrd.1 (hsome ad rfl).1 h1 h63 hbytes hbase
    unfold Oper.wp
    simp[execOp,hop,resolve,invoke,builtin,hs,hx,hrun,Result.andThen]
    exact hK' _ _ (hK v' w' h2 h3)
theorem zeros_u8 (m:Nat):(Builtin.zeroCells #[Value.int .u8 0] m).toList=(List.replicate m (0:Int)).map (.int .u8):=by
  rw[List.map_replicate]
  apply List.ext_getElem
  · simp[Builtin.zeroCells,Value.cells]
  · intro i h1 h2
    simp[Builtin.zeroCells,Value.cells,Nat.mod_one]
theorem zeros_one (m:Nat) : ∀u∈(Builtin.zeroCells (Value.int .u8 0).cells m).toList,u.oneCell'=true:=by
  rw[show (Value.int .u8 0).cells = #[Value.int .u8 0] from rfl,zeros_u8];intro u hu
  obtain⟨x,_,rfl⟩:=List.mem_map.1 hu;rfl
theorem fillL_le {b:List Int}{n:Nat}(h:n≤b.length):fillL b n=b:=by unfold fillL;rw[Nat.sub_eq_zero_of_le h];simp
theorem fill_calls (v:Value)(bs:List Int)(s:Int)(w:World)(hb:BS w v bs)(h0:0≤s)(h1:s≤100000) :
    Calls Tryz.prog 157 #[v,.int .i64 s] w fun e w' => ∃v',e = .returned v'∧BS w' v' (fillL bs s.toNat)∧Below w.heap.size w w':=by
  obtain⟨i0,hi,hzz⟩:=Option.map_eq_some_iff.1 info_bytes
  simp only[Prod.mk.injEq] at hzz
  obtain⟨hz0,hz1,hz2⟩:=hzz
  obtain⟨A,c,rfl,hA,hr⟩:=Rd.form hb
  have HV:=Aside0.mk hb
  obtain⟨n,hn⟩ : ∃n,bs.length=n:=⟨_,rfl⟩
  have HN:=Aside0.mk hn
  have hn6:n≤1000000:=by rw[←hn];exact hb.2.1
  rw[hn]
  clear hb hA hr hn
  have hcl:=fun W h=>clone_bytes (.slice A n c) n (bs.map (.int .u8)) W h (fun u hu=>by obtain⟨x,_,rfl⟩:=List.mem_map.1 hu;rfl)
  have HCL:=Aside0.mk hcl
  clear hcl
  by_cases hle:s≤n
  · have HF:=Aside0.mk (show fillL bs s.toNat=bs from fillL_le (by have:=HN.out;omega))
    clear hi hz0 hz1 hz2
    go_enter Tryz.func157,Tryz.ntmps157
    go_wp2_with fail
    refine (HCL.out _ (by have h:=HV.out;unfold BS at h;rw[HN.out] at h;exact h)).mono ?_
    rintro e w1 ⟨v1,rfl,ho,hB⟩
    have HO:=Aside0.mk ho
    have HB:=Aside0.mk hB
    clear ho hB
    go_wp2_with fail
    go_ret
    exact⟨v1,by simp,by rw[HF.out];unfold BS;rw[HN.out];exact Rd.of_own HO.out hn6,HB.out⟩
  · obtain⟨m,hm⟩ : ∃m:Nat,s - n=m:=⟨(s - n).toNat,by omega⟩
    have HM:=Aside0.mk hm
    have hmb:n+m≤100000:=by omega
    clear hm
    go_enter Tryz.func157,Tryz.ntmps157
    go_wp2_with fail
    refine (HCL.out _ (by have h:=HV.out;unfold BS at h;rw[HN.out] at h;exact h)).mono ?_
    rintro e w1 ⟨v1,rfl,ho,hB⟩
    have HO:=Aside0.mk ho
    have HB:=Aside0.mk hB
    clear ho hB
    go_wp2_with (at_builtin;refine wpList_append_zeros _ (by rfl) _ _ 93 3 (by rfl) w.heap.size 5 i0 (.int .u8 0) 1 1 Tryz.underlying93 Tryz.underlying3 hi hz0 hz1 hz2 rfl (by decide) (by decide) v1 n (bs.map (.int .u8)) (by rfl) HO.out .i64 m (s - n) (by rfl) HM.out (zeros_one m) (by omega) HB.out.size ?_)
    intro v2 w2 hown hgr
    have HO2:=Aside0.mk hown
    have HB2:=Aside0.mk (show Below w.heap.size w w2 from HB.out.grown hgr HB.out.size (fun k hk=>(ow_block HO.out hk).1))
    clear hown hgr hi hz0 hz1 hz2
    obtain⟨A2,c2,rfl,_⟩:=ow_slice HO2.out
    go_wp2_with fail
    go_ret
    refine⟨.slice A2 (n+m) c2,by simp,?_,HB2.out⟩
    have e:fillL bs s.toNat=bs++List.replicate m 0:=by unfold fillL;rw[HN.out,show s.toNat - n=m from by have:=HM.out;omega]
    have:=HO2.out
    rw[zeros_u8,←List.map_append] at this
    unfold BS
    rw[e,List.length_append,HN.out,List.length_replicate]
    exact Rd.of_own this (by omega)
theorem grow_nil (n:Int)(w:World)(h0:0≤n)(h1:n≤100000) :
    Calls Tryz.prog 238 #[.slice none 0 0,.int .i64 n] w fun e w' => ∃v',e = .returned v'∧w'.ownsRow w.heap.size 5 1 v' 0 []∧Below w.heap.size w w':=by
  obtain⟨i0,hi,hzz⟩:=Option.map_eq_some_iff.1 info_bytes
  simp only[Prod.mk.injEq] at hzz
  obtain⟨hz0,hz1,hz2⟩:=hzz
  by_cases hle:n=0
  · subst hle
    go_enter Tryz.func238,Tryz.ntmps238
    go_wp2_with fail
    go_ret
    exact⟨_,rfl,World.ownsRow_nil _ _ _ _,Below.refl _ _⟩
  · have hn1:0<n:=by omega
    have hnl : ¬n<0:=by omega
    obtain⟨m,hm⟩ : ∃m:Nat,n=m:=⟨n.toNat,by omega⟩
    have HM:=Aside0.mk hm
    have hmb:m≤100000:=by omega
    have hm1:0<m:=by omega
    clear hm hle
    go_enter Tryz.func238,Tryz.ntmps238
    go_wp2_with (at_builtin;refine wpList_append_zeros _ (by rfl) _ _ 93 3 (by rfl) w.heap.size 5 i0 (.int .u8 0) 1 1 Tryz.underlying93 Tryz.underlying3 hi hz0 hz1 hz2 rfl (by decide) (by decide) (.slice none 0 0) 0 [] (by rfl) (World.ownsRow_nil _ _ _ _) .i64 m n (by rfl) HM.out (zeros_one m) (by omega) (Nat.le_refl _) ?_)
    intro v2 w2 hown hgr
    obtain⟨g,cap,rfl,hbg,hgl⟩:=hown.form (by omega)
    have HO2:=Aside0.mk hown
    have HB2:=Aside0.mk (show Below w.heap.size w w2 from (Below.refl _ _).grown hgr (Nat.le_refl _) (fun k hk=>by cases hk))
    clear hown hgr hi hz0 hz1 hz2
    go_wp2_with fail
    go_ret
    refine⟨.slice (some ⟨g,0,none⟩) 0 cap,by simp,?_,HB2.out⟩
    obtain⟨o1,o2⟩:=HO2.out
    rcases o2 with ⟨o2,_⟩ | ⟨g',cap',cur,hv,hg,hh,hnc,hcm,hsz,htk⟩
    · cases o2
    · simp at hv
      obtain⟨rfl,rfl⟩:=hv
      exact⟨rfl,.inr ⟨g,cap,cur,rfl,hg,hh,by omega,hcm,hsz,by simp⟩⟩
def BSs (w:World)(v:Value)(n:Nat)(bss:List (List Int)):Prop:=
  bss.length=n∧∃vs,Rd w 93 1 v n vs∧∀(i:Nat) (b:List Int),bss[i]? = some b→∃x,vs[i]? = some x∧BS w x b
theorem BSs.below {w w':World}{v:Value}{n:Nat}{bss:List (List Int)}(h:BSs w v n bss)(hb:Below w.heap.size w w'):BSs w' v n bss:=by
  obtain⟨h1,vs,h2,h3⟩:=h
  exact⟨h1,vs,h2.below hb,fun i b hi=>by obtain⟨x,hx,hx2⟩:=h3 i b hi;exact⟨x,hx,hx2.below hb⟩⟩
theorem flat_take (bss:List (List Int))(i:Nat)(b:List Int)(h:bss[i]? = some b):(bss.take (i+1)).flatten=(bss.take i).flatten++b:=by
  obtain⟨hl,he⟩:=List.getElem?_eq_some_iff.1 h
  rw[List.take_succ_eq_append_getElem hl,List.flatten_append,he]
  simp
theorem flat_le (bss:List (List Int))(i:Nat):(bss.take i).flatten.length≤bss.flatten.length:=by
  conv=>rhs;rw[←List.take_append_drop i bss]
  rw[List.flatten_append,List.length_append];omega
theorem concat_calls (v:Value)(n:Nat)(bss:List (List Int))(w:World)(hb:BSs w v n bss)(hB:bss.flatten.length≤90000)(hn:n≤1000) :
    Calls Tryz.prog 218 #[v] w fun e w' => ∃v',e = .returned v'∧BS w' v' bss.flatten∧Below w.heap.size w w':=by
  obtain⟨i0,hi,hzz⟩:=Option.map_eq_some_iff.1 info_bytes
  simp only[Prod.mk.injEq] at hzz
  obtain⟨hz0,hz1,hz2⟩:=hzz
  have HV:=Aside0.mk hb
  obtain⟨hlen,vs,hrd,hel⟩:=hb
  obtain⟨A,c,rfl,hA,hr⟩:=Rd.form hrd
  have HL:=Aside0.mk hlen
  have HT:=Aside0.mk hB
  have HI0:=Aside0.mk (And.intro hi (And.intro hz0 (And.intro hz1 hz2)))
  clear hlen hrd hel hA hr hB hi hz0 hz1 hz2
  -- what is read of one of them
  have HE:=Aside0.mk (show ∀(W:World) (i:Nat),BSs W (.slice A n c) n bss→i<n→∃ad A1 b c1,A=some ad∧bss[i]? = some b∧W.cell? (ad.add i)=some (.slice A1 b.length c1)∧BS W (.slice A1 b.length c1) b from fun W i h hi=>by
    obtain⟨hl,vs,hrd,hel⟩:=h
    obtain⟨b,hbb⟩ : ∃b,bss[i]? = some b:=⟨_,List.getElem?_eq_getElem (by omega)⟩
    obtain⟨x,hx,hxb⟩:=hel i b hbb
    obtain⟨A1,c1,rfl,_,_⟩:=Rd.form hxb
    obtain⟨A',c',he,hA',hr'⟩:=Rd.form hrd
    injection he with he1 he2 he3
    subst he1 he3
    cases A with
    | none=>have:=(hA' rfl).1;omega
    | some ad=>exact⟨ad,A1,b,c1,rfl,hbb,(hr' ad rfl).1 i _ hx,hxb⟩)
  go_enter Tryz.func218,Tryz.ntmps218
  go_wp2_with fail
  go_loopg [3,11] (n+1) (fun kq v3 v11 w' => ∃(i j:Int),v3 = .int .i64 j∧v11 = .int .i64 i∧Aside0 (0≤i∧i≤n∧(kq:Int)=n+1 - i∧j=(((bss.take i.toNat).flatten.length:Nat):Int))∧w'=w)
  case atStart=>exact⟨0,0,rfl,rfl,⟨by omega,by omega,by omega,by simp⟩,rfl⟩
  case round=>
    obtain⟨i,j,rfl,rfl,HI,rfl⟩:=hrel
    have hi0:0≤i:=HI.out.1
    have hj0:0≤j:=by have:=HI.out;omega
    have hj1:j≤90000:=by have:=HI.out;have:=flat_le bss i.toNat;have:=HT.out;omega
    by_cases hlt:i<n
    · obtain⟨ad,A1,b,c1,rfl,hbb,hcell,hbs⟩:=HE.out wr i.toNat HV.out (by omega)
      have HBB:=Aside0.mk hbb
      have hjb:j+(b.length:Int)≤90000:=by
        have:=HI.out.2.2.2
        have h2:=flat_take bss i.toNat b hbb
        have h3:=flat_le bss (i.toNat+1)
        rw[h2,List.length_append] at h3
        have:=HT.out;omega
      have hjn : ¬j+(b.length:Int)<0:=by omega
      clear hbb hbs
      go_wp2_with fail
      go_roundg (gk - 1)
      case measure=>have:=HI.out;omega
      case rel=>exact⟨i+1,_,rfl,rfl,⟨by omega,by omega,by have:=HI.out;omega,by
        rw[show (i+1).toNat=i.toNat+1 from by omega,flat_take _ _ _ HBB.out,List.length_append]
        have:=HI.out;omega⟩,rfl⟩
    · have HJ:=Aside0.mk (show j=((bss.flatten.length:Nat):Int) by
        have:=HI.out.2.2.2
        rw[List.take_of_length_le (by have:=HL.out;omega)] at this
        exact this)
      go_wp2_with fail
      refine (grow_nil j _ hj0 (by omega)).mono ?_
      rintro e w1 ⟨v1,rfl,ho,hB⟩
      have HO:=Aside0.mk ho
      have HB:=Aside0.mk hB
      clear ho hB hlt
      obtain⟨wo,rfl⟩ : ∃wo:World,wo=wr:=⟨_,rfl⟩
      go_wp2_with fail
      go_loopg [6,27] (n+1) (fun kq v6 v27 w' => ∃(i:Int) (sl:Value),v6=sl∧v27 = .int .i64 i∧Aside0 (0≤i∧i≤n∧(kq:Int)=n+1 - i)∧Aside0 (w'.ownsRow wo.heap.size 5 1 sl (bss.take i.toNat).flatten.length ((bss.take i.toNat).flatten.map (.int .u8)))∧Aside0 (Below wo.heap.size wo w'))
      case atStart=>exact⟨0,v1,rfl,rfl,⟨by omega,by omega,by omega⟩,⟨by simpa using HO.out⟩,HB⟩
      case round=>
        obtain⟨i2,sl,rfl,rfl,HI2,HO2,HB2⟩:=hrel
        have hi20:0≤i2:=HI2.out.1
        by_cases hlt2:i2<n
        · obtain⟨ad,A1,b,c1,rfl,hbb,hcell,hbs⟩:=HE.out _ i2.toNat (HV.out.below HB2.out) (by omega)
          have HBB:=Aside0.mk hbb
          have HBS:=Aside0.mk hbs
          have hjb:(bss.take i2.toNat).flatten.length+b.length≤90000:=by
            have h2:=flat_take bss i2.toNat b hbb
            have h3:=flat_le bss (i2.toNat+1)
            rw[h2,List.length_append] at h3
            have:=HT.out;omega
          obtain⟨hi,hz0,hz1,hz2⟩:=HI0.out
          obtain⟨A1',c1',he1,hnone,hsome⟩:=Rd.form hbs
          obtain⟨fl,hfl⟩ : ∃fl:List Int,(bss.take i2.toNat).flatten=fl:=⟨_,rfl⟩
          have HFL:=Aside0.mk hfl
          have ho2:=HO2.out
          rw[hfl] at ho2 hjb
          replace HO2:=Aside0.mk ho2
          clear hbb hbs he1 hnone hsome hfl ho2
          go_wp2_with (at_builtin;(refine wpList_append_any_rd _ (by rfl) _ _ 93 (by rfl) wo.heap.size 5 i0 (.int .u8 0) 1 1 Tryz.underlying93 hi hz0 hz1 hz2 rfl (by decide) _ fl.length (fl.map (.int .u8)) (by rfl) HO2.out A1 b.length c1 (b.map (.int .u8)) (by rfl) HBS.out (by intro u hu;obtain⟨x,_,rfl⟩:=List.mem_map.1 hu;rfl) (by unfold maxLen;omega) (by omega) HB2.out.size ?_))
          intro v3 w3 hown hgr
          have HO3:=Aside0.mk hown
          have HB3:=Aside0.mk (show Below wo.heap.size wo w3 from HB2.out.grown hgr HB2.out.size (fun k hk=>(ow_block HO2.out hk).1))
          clear hown hgr hi hz0 hz1 hz2
          go_wp2_with fail
          go_roundg (gk - 1)
          case measure=>have:=HI2.out;omega
          case rel=>
            refine⟨i2+1,_,rfl,rfl,⟨by omega,by omega,by have:=HI2.out;omega⟩,⟨?_⟩,HB3⟩
            rw[show (i2+1).toNat=i2.toNat+1 from by omega,flat_take _ _ _ HBB.out,HFL.out,List.length_append,List.map_append]
            exact HO3.out
        · have HE2:=Aside0.mk (show bss.take i2.toNat=bss by rw[List.take_of_length_le (by have:=HL.out;omega)])
          obtain⟨A3,c3,rfl,_⟩:=ow_slice HO2.out
          go_wp2_with fail
          go_ret
          refine⟨.slice A3 (bss.take i2.toNat).flatten.length c3,by simp,?_,HB2.out⟩
          have h:=HO2.out
          rw[HE2.out] at h ⊢
          exact Rd.of_own h (by have:=HT.out;omega)
end Go.Proofs.YtaplpeoikebedaaGreatDoor.Fill
namespace Go.Proofs.YtaplpeoikebedaaGreatDoor.BlockB
open Go.RowKit YtaplpeoikebedaaGreatDoorW.PrintWords YtaplpeoikebedaaGreatDoorW.PrintLast YtaplpeoikebedaaGreatDoorW.PrintMore
open See Mem Clone Go.Proofs.YtaplpeoikebedaaGreatDoor.Cell Page PageB PageR Disk RecD Rec RecC RecB Fill
attribute [local go_sem] max2_imax min2_imin max_two min_two
def recCells (l:List RecV):List Value:=l.flatMap recL
theorem recCells_at : ∀(l:List RecV) (i:Nat) (r:RecV) (j:Nat),l[i]? = some r→j<10→(recCells l)[i*10+j]? = (recL r)[j]?
  | [],i,r,j,h,_=>by simp at h
  | s :: l,0,r,j,h,hj=>by
    simp at h;subst h
    unfold recCells
    rw[List.flatMap_cons,Nat.zero_mul,Nat.zero_add,List.getElem?_append_left (by simp[recL];omega)]
  | s :: l,i+1,r,j,h,hj=>by
    have:=recCells_at l i r j (by simpa using h) hj
    have e:recCells (s :: l)=recL s++recCells l:=by simp[recCells,List.flatMap_cons]
    rw[e,List.getElem?_append_right (by simp[recL];omega),show (i+1)*10+j - (recL s).length=i*10+j from by simp[recL];omega]
    exact this
theorem recCells_append (a b:List RecV):recCells (a++b)=recCells a++recCells b:=by unfold recCells;rw[List.flatMap_append]
theorem recCells_one (l:List RecV) : ∀u∈recCells l,u.oneCell'=true:=fun u hu=>by
  obtain⟨r,_,h⟩:=List.mem_flatMap.1 hu
  exact recL_one r u h
def RecsR (w:World)(v:Value)(l:List RecV):Prop:=Rd w 46 10 v l.length (recCells l)
theorem RecsR.below {w w':World}{v:Value}{l:List RecV}(h:RecsR w v l)(hb:Below w.heap.size w w'):RecsR w' v l:=Rd.below h hb
theorem RecsR.at {w:World}{A:Option Addr}{n c:Nat}{l:List RecV}(h:RecsR w (.slice A n c) l){i:Nat}{r:RecV}(hi:l[i]? = some r) :
    ∃ g off, A = some ⟨g, off, none⟩ ∧ w.cell? ⟨g, off + i * 10, none⟩ = some (.int .i64 r.kind) ∧ w.cell? ⟨g, off + i * 10 + 1, none⟩ = some (.int .i64 r.txn) ∧ w.cell? ⟨g, off + i * 10 + 2, none⟩ = some (.int .i64 r.page) ∧ w.cell? ⟨g, off + i * 10 + 3, none⟩ = some (.int .i64 r.prev) ∧ w.cell? ⟨g, off + i * 10 + 4, none⟩ = some (.int .i64 r.next) ∧
      w.cell? ⟨g,off+i*10+5,none⟩=some (.int .i64 r.key)∧w.cell? ⟨g,off+i*10+6,none⟩=some (.bool r.had)∧w.cell? ⟨g,off+i*10+7,none⟩=some (.bool r.has)∧w.cell? ⟨g,off+i*10+8,none⟩=some (.int .i64 r.old)∧w.cell? ⟨g,off+i*10+9,none⟩=some (.int .i64 r.new):=by
  have hlt:=(List.getElem?_eq_some_iff.1 hi).1
  rcases h.2.2 with ⟨hv,h0⟩ | ⟨g,off,cap,cur,fz,hv,hh,hnc,hcm,hsz,htk⟩
  · omega
  · injection hv with h1 h2 h3
    subst h1
    have key : ∀j u,j<10→(recL r)[j]? = some u→w.cell? ⟨g,off+i*10+j,none⟩=some u:=fun j u hj hu=>by
      have e:=recCells_at l i r j hi hj
      rw[hu,←htk,List.getElem?_take,if_pos (by omega),List.getElem?_drop] at e
      simp only[World.cell?,hh]
      rw[show off+i*10+j=off+(i*10+j) from by omega]
      simpa using e
    exact⟨g,off,rfl,key 0 _ (by omega) rfl,key 1 _ (by omega) rfl,key 2 _ (by omega) rfl,key 3 _ (by omega) rfl,key 4 _ (by omega) rfl,key 5 _ (by omega) rfl,key 6 _ (by omega) rfl,key 7 _ (by omega) rfl,key 8 _ (by omega) rfl,key 9 _ (by omega) rfl⟩
theorem join_calls (A:Option Addr)(n c:Nat)(bss:List (List Int))(w:World)(hb:BSs w (.slice A n c) n bss)(hB:bss.flatten.length≤90000)(hn:n≤1000) :
    Calls Tryz.prog 191 #[.slice A n c] w fun e w' => ∃v',e = .returned v'∧BS w' v' bss.flatten∧Below w.heap.size w w':=by
  have HC:=Aside0.mk (concat_calls (.slice A n c) n bss w hb hB hn)
  clear hb hB
  go_enter Tryz.func191,Tryz.ntmps191
  go_wp2_with fail
  refine HC.out.mono ?_
  rintro e w1 ⟨v1,rfl,hv,hb⟩
  have HV:=Aside0.mk hv
  have HB:=Aside0.mk hb
  obtain⟨A1,c1,rfl,_⟩:=Rd.form hv
  clear hv hb
  go_wp2_with fail
  go_ret
  exact⟨.slice A1 bss.flatten.length c1,by simp,HV.out,HB.out⟩
theorem bs_magic {W:World}{b:Nat}{fz:Nat×Nat}(h:W.heap[b]? = some (.cells #[.int .u8 80,.int .u8 72,.int .u8 88,.int .u8 66] 5 fz)):BS W (.slice (some ⟨b,0,none⟩) 4 4) [80,72,88,66]:=
  ⟨by simp,by simp,.inr ⟨b,0,4,_,_,rfl,h,by simp,by decide,by simp,by simp⟩⟩
theorem bss_two {W:World}{b:Nat}{u v:Value}{x y:List Int}(h:W.heap[b]? = some (.cells #[u,v] 93 (0,0)))(hx:BS W u x)(hy:BS W v y):BSs W (.slice (some ⟨b,0,none⟩) 2 2) 2 [x,y]:=by
  refine⟨rfl,[u,v],⟨by simp,by simp,.inr ⟨b,0,2,_,_,rfl,h,by simp,by decide,by simp,by simp⟩⟩,fun i b' hi => ?_⟩
  match i,hi with
  | 0,hi=>simp at hi;subst hi;exact⟨u,rfl,hx⟩
  | 1,hi=>simp at hi;subst hi;exact⟨v,rfl,hy⟩
theorem magic_fill:fillL [80,72,88,66] (16:Int).toNat=[80,72,88,66]++List.replicate 12 0:=rfl
theorem magic_len:([80,72,88,66]++List.replicate 12 (0:Int)).length=16:=rfl
theorem head4_len (e:Int):(putL ([80,72,88,66]++List.replicate 12 0) 4 4 e).length=16:=by rw[putL_length _ _ _ _ (by rw[magic_len];omega),magic_len]
def blockV (epoch:Int)(l:List RecV):List Int:=if (blockE epoch l).isNone then blockBytes epoch l else []
theorem blockE_bad {e:Int}{l:List RecV}(h:blockOk e l=false):blockE e l=some 1:=by unfold blockE;rw[h];rfl
theorem blockE_rec {e:Int}{l:List RecV}{i:Nat}{r:RecV}(hi:l[i]? = some r)(h:recOk r=false):blockE e l=some 1:=by
  unfold blockE
  rw[show l.all recOk=false from by
    rw[List.all_eq_false]
    exact⟨r,List.mem_of_getElem? hi,by simp[h]⟩]
  simp
theorem blockE_good {e:Int}{l:List RecV}(h:blockOk e l=true)(hr : ∀r∈l,recOk r=true):blockE e l=none:=by
  unfold blockE
  rw[h,List.all_eq_true.2 hr];rfl
def blockN (epoch:Int)(l:List RecV)(i:Nat):List Int:=blockHead epoch l.length++blockBody (l.take i)
theorem blockN_len (e:Int)(l:List RecV)(i:Nat):(blockN e l i).length≤16+40*l.length:=by
  unfold blockN
  rw[List.length_append,blockHead_len,blockBody_len,List.length_take];omega
theorem blockN_succ (e:Int)(l:List RecV)(i:Nat)(r:RecV)(h:l[i]? = some r):blockN e l (i+1)=blockN e l i++recBytes r:=by
  obtain⟨hl,he⟩:=List.getElem?_eq_some_iff.1 h
  unfold blockN blockBody
  rw[List.take_succ_eq_append_getElem hl,List.flatMap_append,he,List.append_assoc]
  simp
theorem bbytes_calls (a:Nat→Addr)(ep:Int)(v:Value)(l:List RecV)(w:World)(hs:Sents w a)(hl:RecsR w v l) :
    Calls Tryz.prog 133 #[.int .i64 ep,v] w fun e w' => ∃v,e = .returned (.tuple #[v,errv a (blockE ep l)])∧BS w' v (blockV ep l)∧Below w.heap.size w w':=by
  have HS:=Aside0.mk hs
  have hg1:w.cell? ⟨6,0,none⟩=some (.iface 333 (.pointer (some (a 1)))):=hs.cell 1 (by decide)
  obtain⟨A,c,rfl,_⟩:=Rd.form hl
  obtain⟨n,hn⟩ : ∃n,l.length=n:=⟨_,rfl⟩
  have HN:=Aside0.mk hn
  have hn6:n≤1000000:=by rw[←hn];exact hl.2.1
  rw[hn] at hl ⊢
  have HL:=Aside0.mk hl
  clear hs hl hn
  rcases (show ep<1∨(1≤ep∧1073741824<ep)∨(1≤ep∧ep≤1073741824∧(n:Int)<1)∨(1≤ep∧ep≤1073741824∧1≤(n:Int)∧6<(n:Int))∨(1≤ep∧ep≤1073741824∧1≤(n:Int)∧(n:Int)≤6) by omega) with h | ⟨h1,h2⟩ | ⟨h1,h2,h3⟩ | ⟨h1,h2,h3,h4⟩ | ⟨h1,h2,h3,h4⟩
  · have HE:=Aside0.mk (blockE_bad (e:=ep) (l:=l) (by unfold blockOk inB;rw[HN.out];simp;omega))
    have q1:decide (ep<1)=true:=decide_eq_true h
    go_enter Tryz.func133,Tryz.ntmps133
    go_wp2_with fail
    go_region
    all_goals
      go_wp2_with fail
      exact bodyPost_ret (v:=.tuple #[.slice none 0 0,.iface 333 (.pointer (some (a 1)))]) (by simp[results,Tryz.results133,go_sem]) rfl ⟨_,by rw[HE.out];rfl,by unfold blockV;rw[HE.out];exact BS.nil _,by repeat (first | exact Below.refl _ _ | apply pw_below_drewN | apply below_drew1)⟩
  · have HE:=Aside0.mk (blockE_bad (e:=ep) (l:=l) (by unfold blockOk inB;rw[HN.out];simp;omega))
    have q1:decide (ep<1)=false:=decide_eq_false (by omega)
    have q2:decide (ep>1073741824)=true:=decide_eq_true h2
    go_enter Tryz.func133,Tryz.ntmps133
    go_wp2_with fail
    go_region
    all_goals
      go_wp2_with fail
      exact bodyPost_ret (v:=.tuple #[.slice none 0 0,.iface 333 (.pointer (some (a 1)))]) (by simp[results,Tryz.results133,go_sem]) rfl ⟨_,by rw[HE.out];rfl,by unfold blockV;rw[HE.out];exact BS.nil _,by repeat (first | exact Below.refl _ _ | apply pw_below_drewN | apply below_drew1)⟩
  · have HE:=Aside0.mk (blockE_bad (e:=ep) (l:=l) (by unfold blockOk inB;rw[HN.out];simp;omega))
    have q1:decide (ep<1)=false:=decide_eq_false (by omega)
    have q2:decide (ep>1073741824)=false:=decide_eq_false (by omega)
    have q3:n=0:=by omega
    subst q3
    go_enter Tryz.func133,Tryz.ntmps133
    go_wp2_with fail
    go_region
    all_goals
      go_wp2_with fail
      exact bodyPost_ret (v:=.tuple #[.slice none 0 0,.iface 333 (.pointer (some (a 1)))]) (by simp[results,Tryz.results133,go_sem]) rfl ⟨_,by rw[HE.out];rfl,by unfold blockV;rw[HE.out];exact BS.nil _,by repeat (first | exact Below.refl _ _ | apply pw_below_drewN | apply below_drew1)⟩
  · have HE:=Aside0.mk (blockE_bad (e:=ep) (l:=l) (by unfold blockOk inB;rw[HN.out];simp;omega))
    have q1:decide (ep<1)=false:=decide_eq_false (by omega)
    have q2:decide (ep>1073741824)=false:=decide_eq_false (by omega)
    go_enter Tryz.func133,Tryz.ntmps133
    go_wp2_with fail
    go_region
    all_goals
      go_wp2_with fail
      exact bodyPost_ret (v:=.tuple #[.slice none 0 0,.iface 333 (.pointer (some (a 1)))]) (by simp[results,Tryz.results133,go_sem]) rfl ⟨_,by rw[HE.out];rfl,by unfold blockV;rw[HE.out];exact BS.nil _,by repeat (first | exact Below.refl _ _ | apply pw_below_drewN | apply below_drew1)⟩
  · have HOK:=Aside0.mk (show blockOk ep l=true by unfold blockOk inB;rw[HN.out];simp;omega)
    have q1:decide (ep<1)=false:=decide_eq_false (by omega)
    have q2:decide (ep>1073741824)=false:=decide_eq_false (by omega)
    have q3:decide ((n:Int)<1)=false:=decide_eq_false (by omega)
    have q4:decide (6<(n:Int))=false:=decide_eq_false (by omega)
    have q5:decide ((n:Int)>6)=false:=decide_eq_false (by omega)
    have hcv:=fun (w:World) (C:Array Value) (n c:Nat)=>Lib.run_convert_bytes_const (P:=Tryz.prog) w 93 5 C n c Tryz.underlying93 Tryz.underlying5
    clear hg1
    go_enter Tryz.func133,Tryz.ntmps133
    go_wp2_with fail
    have hbm:=bs_magic (W:=w.alloc (.cells #[.int .u8 80,.int .u8 72,.int .u8 88,.int .u8 66] 5 (4,5))) (b:=w.heap.size) (heap_alloc_new w _)
    refine (fill_calls _ [80,72,88,66] 16 _ hbm (by omega) (by omega)).mono ?_
    rintro e w1 ⟨v1,rfl,hv,hb⟩
    rw[magic_fill] at hv
    obtain⟨ml,hml⟩ : ∃ml:List Int,[80,72,88,66]++List.replicate 12 0=ml:=⟨_,rfl⟩
    have hl0:ml.length=16:=by rw[←hml];exact magic_len
    have HML:=Aside0.mk hml
    rw[hml] at hv
    have HV:=Aside0.mk hv
    have HB:=Aside0.mk (below_step (below_alloc (Below.refl w.heap.size w) (.cells #[.int .u8 80,.int .u8 72,.int .u8 88,.int .u8 66] 5 (4,5))) hb)
    have HL0:=Aside0.mk hl0
    clear hv hb hbm hcv hml hl0
    go_wp2_with fail
    refine (put_calls _ ml 4 4 ep (by omega) (by omega) (by omega) (by rw[HL0.out];omega) (by omega) _ HV.out).mono ?_
    rintro e w2 ⟨v2,rfl,hv,hb⟩
    replace HV:=Aside0.mk hv
    replace HB:=Aside0.mk (below_step HB.out hb)
    clear hv hb
    go_wp2_with fail
    refine (put_calls _ _ 8 2 (n:Int) (by omega) (by omega) (by omega) (by rw[←HML.out];show _≤(((putL _ 4 4 _).length:Nat):Int);rw[head4_len];omega) (by omega) _ HV.out).mono ?_
    rintro e w3 ⟨v3,rfl,hv,hb⟩
    replace HV:=Aside0.mk (show BS w3 v3 (blockN ep l 0) by
      have:=hv
      rw[←HML.out] at this
      unfold blockN blockHead blockBody
      simp only[List.take_zero,List.flatMap_nil,List.append_nil]
      rw[HN.out,PageL.u64_id (n:=ep) (by omega) (by omega),PageL.u64_id (n:=(n:Int)) (by omega) (by omega)]
      exact this)
    replace HB:=Aside0.mk (below_step HB.out hb)
    clear hv hb
    go_wp2_with fail
    go_loopg [6,42] (n+1) (fun kq v6 v42 w' => ∃(i:Int) (v:Value),v6=v∧v42 = .int .i64 i∧Aside0 (0≤i∧i≤n∧(kq:Int)=n+1 - i)∧Aside0 (∀(j:Nat) (r:RecV),(j:Int)<i→l[j]? = some r→recOk r=true)∧Aside0 (BS w' v (blockN ep l i.toNat))∧Aside0 (Below w.heap.size w w'))
    case atStart=>exact⟨0,_,rfl,rfl,⟨by omega,by omega,by omega⟩,⟨fun j r h=>by omega⟩,HV,HB⟩
    case round=>
      clear HV HB
      obtain⟨i,v,rfl,rfl,HI,HJ,HV,HB⟩:=hrel
      have hi0:0≤i:=HI.out.1
      by_cases hlt:i<n
      · obtain⟨r,hr⟩ : ∃r,l[i.toNat]? = some r:=⟨_,List.getElem?_eq_getElem (by have:=HN.out;omega)⟩
        obtain⟨g,off,rfl,d0,d1,d2,d3,d4,d5,d6,d7,d8,d9⟩:=(HL.out.below HB.out).at hr
        have HRI:=Aside0.mk hr
        obtain⟨k,t,pg,pv,nx,ky,hd,hh,ol,nw⟩:=r
        simp only at d0 d1 d2 d3 d4 d5 d6 d7 d8 d9
        clear hr
        go_wp2_with fail
        refine (rbytes_calls a ⟨k,t,pg,pv,nx,ky,hd,hh,ol,nw⟩ _ (by exact HS.out.below (by repeat (first | exact HB.out | apply below_drew1 | apply below_alloc)))).mono ?_
        rintro e w4 ⟨v4,rfl,hv4,hb4⟩
        have HV4:=Aside0.mk hv4
        replace HV:=Aside0.mk (BS.below HV.out (show Below wr.heap.size wr w4 from (by repeat (first | exact Below.refl _ _ | apply below_drew1 | apply below_alloc):Below wr.heap.size wr (wr.alloc _)).trans (hb4.mono (by simp))))
        replace HB:=Aside0.mk (below_step (by repeat (first | exact HB.out | apply below_drew1 | apply below_alloc)) hb4)
        clear hv4 hb4 d0 d1 d2 d3 d4 d5 d6 d7 d8 d9
        cases hok:recOk ⟨k,t,pg,pv,nx,ky,hd,hh,ol,nw⟩ with
        | false=>
          have hce:errv a (recE ⟨k,t,pg,pv,nx,ky,hd,hh,ol,nw⟩) = .iface 333 (.pointer (some (a 1))):=by unfold recE;rw[hok];rfl
          have HE:=Aside0.mk (blockE_rec (e:=ep) HRI.out hok)
          rw[hce]
          clear hce hok
          go_wp2_with fail
          exact bodyPost_ret (v:=.tuple #[.slice none 0 0,.iface 333 (.pointer (some (a 1)))]) (by simp[results,Tryz.results133,go_sem]) rfl ⟨_,by rw[HE.out];rfl,by unfold blockV;rw[HE.out];exact BS.nil _,HB.out⟩
        | true=>
          have hce:errv a (recE ⟨k,t,pg,pv,nx,ky,hd,hh,ol,nw⟩) = .nilIface:=by unfold recE;rw[hok];rfl
          have hbv:recBV ⟨k,t,pg,pv,nx,ky,hd,hh,ol,nw⟩=recBytes ⟨k,t,pg,pv,nx,ky,hd,hh,ol,nw⟩:=by unfold recBV;rw[hok];rfl
          have hv4:=HV4.out
          rw[hbv] at hv4
          replace HV4:=Aside0.mk hv4
          have HOKR:=Aside0.mk hok
          rw[hce]
          clear hce hok hbv hv4
          obtain⟨A6,c6,rfl,_⟩:=Rd.form HV.out
          obtain⟨A4,c4,rfl,_⟩:=Rd.form HV4.out
          go_wp2_with fail
          refine (join_calls (some ⟨w4.heap.size,0,none⟩) 2 2 [blockN ep l i.toNat,recBytes ⟨k,t,pg,pv,nx,ky,hd,hh,ol,nw⟩] _ (bss_two (b:=w4.heap.size) (heap_alloc_new w4 _) (BS.below HV.out (below_alloc (Below.refl _ _) _)) (BS.below HV4.out (below_alloc (Below.refl _ _) _))) (by
            have:=blockN_len ep l i.toNat
            have:=HN.out
            simp[recBytes_len];omega) (by omega)).mono ?_
          rintro e w5 ⟨v5,rfl,hv5,hb5⟩
          have HV5:=Aside0.mk (show BS w5 v5 (blockN ep l (i.toNat+1)) by rw[blockN_succ _ _ _ _ HRI.out];simpa using hv5)
          have HB5:=Aside0.mk (below_step (below_alloc HB.out _) hb5)
          clear hv5 hb5
          go_wp2_with fail
          go_roundg (gk - 1)
          case measure=>have:=HI.out;omega
          case rel=>
            refine⟨i+1,_,rfl,rfl,⟨by omega,by omega,by have:=HI.out;omega⟩,⟨fun j r hj hr => ?_⟩,⟨by rw[show (i+1).toNat=i.toNat+1 from by omega];exact HV5.out⟩,HB5⟩
            rcases (show (j:Int)<i∨j=i.toNat by omega) with h | h
            · exact HJ.out j r h hr
            · subst h
              rw[HRI.out] at hr
              obtain rfl:=Option.some.inj hr
              exact HOKR.out
      · have HE:=Aside0.mk (show blockE ep l=none from blockE_good HOK.out fun r hr=>by
          obtain⟨j,hj,hjr⟩:=List.getElem_of_mem hr
          exact HJ.out j r (by have:=HI.out;have:=HN.out;omega) (by rw[List.getElem?_eq_getElem hj,hjr]))
        have HV2:=Aside0.mk (show BS wr u6 (blockHead ep l.length++blockBody l) by
          have:=HV.out
          unfold blockN at this
          rw[List.take_of_length_le (by have:=HI.out;have:=HN.out;omega)] at this
          exact this)
        go_wp2_with fail
        refine (fill_calls _ _ 256 _ HV2.out (by omega) (by omega)).mono ?_
        rintro e w5 ⟨v5,rfl,hv5,hb5⟩
        have HV5:=Aside0.mk (show BS w5 v5 (blockBytes ep l) from hv5)
        have HB5:=Aside0.mk (below_step HB.out hb5)
        clear hv5 hb5
        go_wp2_with fail
        exact bodyPost_ret (v:=.tuple #[v5,.nilIface]) (by simp[results,Tryz.results133,go_sem]) rfl ⟨v5,by rw[HE.out];rfl,by unfold blockV;rw[HE.out];exact HV5.out,HB5.out⟩
end Go.Proofs.YtaplpeoikebedaaGreatDoor.BlockB
