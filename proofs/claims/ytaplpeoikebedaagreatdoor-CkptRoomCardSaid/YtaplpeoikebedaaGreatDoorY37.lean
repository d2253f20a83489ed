/- Joined texts: HeldT, FwdF, FwdU. No condition but what each says. -/
import Derived.Test.YtaplpeoikebedaaGreatDoorY25
import Derived.Test.YtaplpeoikebedaaGreatDoorY27
import Derived.Test.YtaplpeoikebedaaGreatDoorY29
import Derived.Test.YtaplpeoikebedaaGreatDoorY31
set_option maxHeartbeats 8000000
set_option maxRecDepth 100000
set_option linter.unusedVariables false
set_option linter.unusedSimpArgs false
namespace Go.Proofs.YtaplpeoikebedaaGreatDoor.HeldT
open Go.RowKit YtaplpeoikebedaaGreatDoorW.PrintWords YtaplpeoikebedaaGreatDoorW.PrintLast YtaplpeoikebedaaGreatDoorW.PrintMore
open See Mem Clone Go.Proofs.YtaplpeoikebedaaGreatDoor.Cell Page PageR Disk DiskN Pool1 Pool2 Rw Del Num SortI StoreD TransT LockT LockU
attribute [local go_sem] max2_imax min2_imin max_two min_two
theorem clos_held (s1 k1 m1:Int)(w:World) :
    Calls Tryz.prog 185 #[.agg #[.int .i64 s1,.int .i64 k1,.int .i64 m1]] w fun e w'=>e = .returned (.bool (m1 == 2))∧Below w.heap.size w w':=by
  go_enter Tryz.func185,Tryz.ntmps185
  go_wp2_with fail
  go_ret
  exact⟨rfl,by repeat (first | exact Below.refl _ _ | apply pw_below_drewN | apply below_drew1 | apply below_alloc)⟩
theorem heldL_succ {ls:List Lk}{i:Nat}{h:Lk}(hi:ls[i]? = some h):heldL (ls.take (i+1))=heldL (ls.take i)++(if h.mode == 2 then [h.key] else []):=by
  obtain⟨h1,h2⟩:=List.getElem?_eq_some_iff.1 hi
  unfold heldL
  rw[List.take_succ_eq_append_getElem h1,List.filter_append,List.map_append,h2]
  by_cases e:(h.mode == 2)=true
  · simp[e]
  · simp[e]
theorem heldL_len (ls:List Lk):(heldL ls).length≤ls.length:=by
  unfold heldL
  rw[List.length_map]
  exact List.length_filter_le _ _
theorem sortI_rise {xs:List Int}(h:xs.Nodup):(sortI xs).Pairwise (· < ·):=by
  have h1:(sortI xs).Pairwise (fun a b=>decide (a≤b)=true):=List.pairwise_mergeSort (fun a b c h1 h2=>by simp at *;omega) (fun a b=>by simp;omega) xs
  have h2:(sortI xs).Nodup:=(List.Perm.nodup_iff (List.mergeSort_perm xs _)).2 h
  exact (h1.and h2).imp fun hab=>by have:=hab.1;have:=hab.2;simp at *;omega
def NR (w:World)(v:Value)(xs:List Int):Prop:=Rd w 3 1 v xs.length (xs.map (.int .i64))
theorem NR.below {w w':World}{v:Value}{xs:List Int}(h:NR w v xs)(hb:Below w.heap.size w w'):NR w' v xs:=Rd.below h hb
theorem is_at {w:World}{b:Nat}{A:Option Addr}{n cap:Nat}{xs:List Int}(h:IS w b (.slice A n cap) xs){i:Nat}{x:Int}(hi:xs[i]? = some x) : ∃g,A=some ⟨g,0,none⟩∧n=xs.length∧w.cell? ⟨g,i,none⟩=some (.int .i64 x):=by
  have hlt:i<xs.length:=(List.getElem?_eq_some_iff.1 hi).1
  rcases h.2 with ⟨h1,h2⟩ | ⟨g',cap',cur,hv,hg,hh,hnc,hcm,hsz,htk⟩
  · omega
  · injection hv with h1 h2 h3
    subst h1 h2
    refine⟨g',rfl,rfl,?_⟩
    have hu:(xs.map (Value.int .i64))[i]? = some (.int .i64 x):=by rw[List.getElem?_map,hi];rfl
    rw[←htk,List.getElem?_take,if_pos (by omega)] at hu
    simp only[World.cell?,hh]
    simpa using hu
theorem compact_calls (b:Nat)(v:Value)(xs:List Int)(w:World)(h:IS w b v xs)(hp:xs.Pairwise (· < ·))(hl:xs.length≤100000) :
    Calls Tryz.prog 180 #[v] w fun e w'=>e = .returned v∧Below w.heap.size w w':=by
  obtain⟨A,cap,rfl,_⟩:=ow_slice h
  obtain⟨n,hn⟩ : ∃n,xs.length=n:=⟨_,rfl⟩
  have HN:=Aside0.mk hn
  have HS:=Aside0.mk h
  have HP:=Aside0.mk hp
  rw[hn] at hl ⊢
  clear h hp hn
  by_cases h2:(n:Int)<2
  · go_enter Tryz.func180,Tryz.ntmps180
    go_wp2_with fail
    go_ret
    exact⟨rfl,Below.refl _ _⟩
  · have HN2:=Aside0.mk (show 2≤n by omega)
    go_enter Tryz.func180,Tryz.ntmps180
    go_wp2_with fail
    go_loopg [3] n (fun kq v3 w' => ∃(k:Int),v3 = .int .i64 k∧Aside0 (1≤k∧k≤n∧(kq:Int)=n+1 - k)∧Aside0 (Below w.heap.size w w'))
    case atStart=>exact⟨1,rfl,⟨by omega,by have:=HN2.out;omega,by omega⟩,⟨Below.refl _ _⟩⟩
    case round=>
      obtain⟨k,rfl,HK,HB⟩:=hrel
      have hk1:1≤k:=HK.out.1
      by_cases hlt:k<n
      · obtain⟨j,hj⟩ : ∃j,k - 1=j:=⟨_,rfl⟩
        obtain⟨x,hx⟩ : ∃x,xs[k.toNat]? = some x:=⟨_,List.getElem?_eq_getElem (by have:=HN.out;omega)⟩
        obtain⟨y,hy⟩ : ∃y,xs[j.toNat]? = some y:=⟨_,List.getElem?_eq_getElem (by have:=HN.out;omega)⟩
        have hxy:(x == y)=false:=by
          have hx1:=List.getElem?_eq_some_iff.1 hx
          have hy1:=List.getElem?_eq_some_iff.1 hy
          obtain⟨hx2,hx3⟩:=hx1
          obtain⟨hy2,hy3⟩:=hy1
          have:=List.pairwise_iff_getElem.1 HP.out j.toNat k.toNat hy2 hx2 (by omega)
          rw[hx3,hy3] at this
          simp;omega
        obtain⟨g,rfl,hnn,hc1⟩:=is_at (HS.out.below HB.out) hx
        obtain⟨g',hg',_,hc2⟩:=is_at (HS.out.below HB.out) hy
        obtain rfl:g=g':=by simpa using hg'
        have hj0:0≤j:=by omega
        have hjn:j<n:=by omega
        have hw:IntKind.i64.wrap (k - 1)=j:=by rw[IntKind.wrap_i64];omega
        clear hg' hnn hx hy hj
        go_wp2_with fail
        go_quiet (fail)
        have HBQ:=Aside0.mk (pw_below_drewN HB.out nq)
        go_wp2_with fail
        go_roundg (gk - 1)
        case measure=>have:=HK.out;omega
        case rel=>exact⟨k+1,rfl,⟨by omega,by omega,by have:=HK.out;omega⟩,HBQ⟩
      · go_wp2_with fail
        go_ret
        exact⟨rfl,HB.out⟩
theorem clip_calls (b:Nat)(v:Value)(xs:List Int)(w:World)(h:IS w b v xs)(hl:xs.length≤100000) :
    Calls Tryz.prog 214 #[v] w fun e w' => ∃v',e = .returned v'∧NR w' v' xs∧Below w.heap.size w w':=by
  rcases h.2 with ⟨rfl,h0⟩ | ⟨g,cap,cur,rfl,hg,hh,hnc,hcm,hsz,htk⟩
  · have hx:xs=[]:=List.eq_nil_of_length_eq_zero h0
    subst hx
    go_enter Tryz.func214,Tryz.ntmps214
    go_wp2_with fail
    go_ret
    exact⟨_,rfl,Rd.nil _ _ _,Below.refl _ _⟩
  · obtain⟨n,hn⟩ : ∃n,xs.length=n:=⟨_,rfl⟩
    have HH:=Aside0.mk (show NR w (.slice (some ⟨g,0,none⟩) n n) xs from by
      subst hn
      exact⟨by simp,by omega,.inr ⟨g,0,_,cur,_,rfl,hh,Nat.le_refl _,by unfold maxLen;omega,by omega,by simpa using htk⟩⟩)
    rw[hn] at hnc hl ⊢
    clear hh hsz htk hcm hn h
    go_enter Tryz.func214,Tryz.ntmps214
    go_wp2_with fail
    go_ret
    exact⟨_,rfl,HH.out,Below.refl _ _⟩
theorem keys_calls (p o:Nat)(v:Value)(ls:List Lk)(w:World)(hr:LR w v ls)(hc:w.cell? ⟨p,o,none⟩=some v)(hd:(heldL ls).Nodup) :
    Calls Tryz.prog 184 #[.pointer (some ⟨p,o,none⟩),.func (.func 185) #[] #[]] w fun e w' => ∃v',e = .returned v'∧NR w' v' (sortI (heldL ls))∧Below w.heap.size w w':=by
  obtain⟨i0,hi,hzz⟩:=Option.map_eq_some_iff.1 info_int
  simp only[Prod.mk.injEq] at hzz
  obtain⟨hz0,hz1,hz2⟩:=hzz
  obtain⟨A,cap,rfl,_⟩:=ow_slice hr.1
  obtain⟨l,hl⟩ : ∃l,ls.length=l:=⟨_,rfl⟩
  have HL:=Aside0.mk hl
  have HF:=Aside0.mk hr
  have HD:=Aside0.mk hd
  have hl8:l≤100000:=by rw[←hl];exact hr.2
  rw[hl] at hc
  have HI0:=Aside0.mk (And.intro hi (And.intro hz0 (And.intro hz1 hz2)))
  clear hr hl hi hz0 hz1 hz2 hd
  go_enter Tryz.func184,Tryz.ntmps184
  go_wp2_with fail
  go_loopg [5,13] (l+1) (fun kq v5 v13 w' => ∃(i:Int) (sl:Value),v5=sl∧v13 = .int .i64 i∧Aside0 (0≤i∧i≤l∧(kq:Int)=l+1 - i)∧Aside0 (IS w' w.heap.size sl (heldL (ls.take i.toNat)))∧Aside0 (Below w.heap.size w w'))
  case atStart=>exact⟨0,_,rfl,rfl,⟨by omega,by omega,by omega⟩,⟨IS.nil _ _⟩,⟨Below.refl _ _⟩⟩
  case round=>
    obtain⟨i,sl,rfl,rfl,HI,HS,HB⟩:=hrel
    have hi0:0≤i:=HI.out.1
    by_cases hlt:i<l
    · obtain⟨f,hf⟩ : ∃f,ls[i.toNat]? = some f:=⟨_,List.getElem?_eq_getElem (by have:=HL.out;omega)⟩
      obtain⟨g,rfl,hll,hd0,hd1,hd2⟩:=(HF.out.below HB.out).at hf
      have HW:=Aside0.mk (heldL_succ hf)
      obtain⟨fs1,fk,fm⟩:=f
      simp only at hd0 hd1 hd2 HW
      clear hf hll
      go_wp2_with fail
      refine (clos_held fs1 fk fm _).mono ?_
      rintro e w1 ⟨rfl,hb⟩
      have hx1:w1.heap[wr.heap.size]? = some (.cells #[.int .i64 fs1,.int .i64 fk,.int .i64 fm] 265 (0,0)):=(hb.block wr.heap.size (by show _<(wr.heap.push _).size;rw[Array.size_push];omega)).trans (heap_alloc_new wr _)
      have hc1:w1.cell? ⟨wr.heap.size,1,none⟩=some (.int .i64 fk):=by simp[World.cell?,hx1]
      have HB1:=Aside0.mk (below_step HB.out (below_step (below_alloc (Below.refl wr.heap.size wr) _) hb))
      have HS1:=Aside0.mk (HS.out.below (below_step (below_alloc (Below.refl wr.heap.size wr) _) hb))
      clear hb hx1 hd0 hd1 hd2
      by_cases h3:fm=2
      · subst h3
        have HIN:=Aside0.mk (show heldL (ls.take (i.toNat+1))=heldL (ls.take i.toNat)++[fk] from HW.out)
        rw[show ((2:Int) == 2)=true from by decide]
        obtain⟨hi,hz0,hz1,hz2⟩:=HI0.out
        obtain⟨n,hn⟩ : ∃n,(heldL (ls.take i.toNat)).length=n:=⟨_,rfl⟩
        have HLT:=Aside0.mk hn
        have hn5:n≤100000:=by rw[←hn];have:=heldL_len (ls.take i.toNat);rw[List.length_take] at this;omega
        clear hn
        go_wp2_with (at_builtin;refine wpList_append_lies _ (by rfl) _ _ 22 (by rfl) w.heap.size 3 i0 (.int .i64 0) 1 8 Tryz.underlying22 hi hz0 hz1 hz2 rfl (by decide) _ n ((heldL (ls.take i.toNat)).map (.int .i64)) (by rfl) ?own ⟨w1.heap.size,0,none⟩ 1 1 [.int .i64 fk] (by rfl) rfl ?news (one_int _) (by decide) (len_ok hn5) ?by8 ?base (w1.heap.size+1) ?hh ?_)
        case own=>have:=HS1.out;unfold IS at this;rw[HLT.out] at this;exact ow_below this (by repeat (first | exact Below.refl _ _ | apply below_drew1 | apply below_alloc))
        case news=>
          intro j u hj
          match j,hj with
          | 0,hj=>simp at hj;subst hj;simp[Addr.add]
        case by8=>omega
        case base=>have:=HB1.out.size;simp;omega
        case hh=>simp
        intro g2 cap2 w3 hown hgr hor hlt3
        have HO3:=Aside0.mk (show IS w3 w.heap.size (.slice (some ⟨g2,0,none⟩) (n+1) cap2) (heldL (ls.take (i.toNat+1))) from by
          unfold IS
          rw[HIN.out,List.length_append,HLT.out,List.map_append]
          exact hown)
        have HB3:=Aside0.mk (show Below w.heap.size w w3 from (HB1.out.trans (Below.mono (show Below w1.heap.size w1 (w1.alloc (.cells #[.int .i64 fk] 3)) by repeat (first | exact Below.refl _ _ | apply below_drew1 | apply below_alloc)) HB1.out.size)).grown (w:=_) hgr (by have:=HB1.out.size;simp;omega) (fun k hk=>by have h:=HS1.out;exact (ow_block h hk).1))
        clear hown hgr hor hlt3 hi hz0 hz1 hz2
        go_wp2_with fail
        go_roundg (gk - 1)
        case measure=>have:=HI.out;omega
        case rel=>exact⟨i+1,_,rfl,rfl,⟨by omega,by omega,by have:=HI.out;omega⟩,⟨by rw[show (i+1).toNat=i.toNat+1 from by omega];exact HO3.out⟩,HB3⟩
      · have q3:(fm == 2)=false:=by simpa using h3
        have HIN:=Aside0.mk (show heldL (ls.take (i.toNat+1))=heldL (ls.take i.toNat) from by rw[HW.out,q3];simp)
        rw[q3]
        go_wp2_with fail
        go_roundg (gk - 1)
        case measure=>have:=HI.out;omega
        case rel=>exact⟨i+1,_,rfl,rfl,⟨by omega,by omega,by have:=HI.out;omega⟩,⟨by rw[show (i+1).toNat=i.toNat+1 from by omega,HIN.out];exact HS1.out⟩,HB1⟩
    · have HE:=Aside0.mk (show ls.take i.toNat=ls by rw[show i.toNat=ls.length from by have:=HI.out;have:=HL.out;omega];exact List.take_length)
      have HS2:=Aside0.mk (show IS wr w.heap.size u5 (heldL ls) from by have h:=HS.out;rw[HE.out] at h;exact h)
      obtain⟨A9,c9,hv9,_⟩:=ow_slice HS2.out
      rw[hv9] at HS2
      obtain⟨q,hq⟩ : ∃q,heldL ls=q:=⟨_,rfl⟩
      have HQ:=Aside0.mk hq
      rw[hq] at HS2 hv9
      have HRS:=Aside0.mk (sortI_rise (by rw[←hq];exact HD.out:q.Nodup))
      obtain⟨n,hn⟩ : ∃n,q.length=n:=⟨_,rfl⟩
      have hn5:n≤100000:=by rw[←hn,←hq];have:=heldL_len ls;have:=HL.out;omega
      have HSL:=Aside0.mk (sortI_len q)
      rw[hn] at HS2 hv9 HSL
      have HN:=Aside0.mk hn
      clear hq hn
      subst hv9
      go_wp2_with fail
      refine (sort_is w.heap.size (.slice A9 n c9) q _ HS2.out (by have:=HN.out;omega)).mono ?_
      rintro e w2 ⟨rfl,h2,hg2⟩
      have HB2:=Aside0.mk (show Below w.heap.size w w2 from HB.out.grown hg2 HB.out.size (fun k hk=>(ow_block HS2.out hk).1))
      have HI2:=Aside0.mk h2
      clear h2 hg2
      go_wp2_with fail
      refine (compact_calls w.heap.size (.slice A9 n c9) (sortI q) _ HI2.out HRS.out (by rw[HSL.out];exact hn5)).mono ?_
      rintro e w3 ⟨rfl,hb3⟩
      have HB3:=Aside0.mk (below_step HB2.out hb3)
      have HI3:=Aside0.mk (HI2.out.below hb3)
      clear hb3
      go_wp2_with fail
      refine (clip_calls w.heap.size (.slice A9 n c9) (sortI q) _ HI3.out (by rw[HSL.out];exact hn5)).mono ?_
      rintro e w4 ⟨v4,rfl,hr4,hb4⟩
      obtain⟨A4,c4,rfl,_⟩:=hr4.form
      have HR4:=Aside0.mk hr4
      have HB4:=Aside0.mk (below_step HB3.out hb4)
      clear hr4 hb4
      go_wp2_with fail
      go_ret
      exact⟨_,rfl,by rw[HQ.out];exact HR4.out,HB4.out⟩
theorem held_calls (p o:Nat)(v:Value)(ls:List Lk)(w:World)(hr:LR w v ls)(hc:w.cell? ⟨p,o,none⟩=some v)(hd:(heldL ls).Nodup) :
    Calls Tryz.prog 127 #[.pointer (some ⟨p,o,none⟩)] w fun e w' => ∃v',e = .returned v'∧NR w' v' (sortI (heldL ls))∧Below w.heap.size w w':=by
  have HC:=Aside0.mk (keys_calls p o v ls w hr hc hd)
  clear hr hc hd
  go_enter Tryz.func127,Tryz.ntmps127
  go_wp2_with fail
  refine HC.out.mono ?_
  rintro e w4 ⟨v4,rfl,hr4,hb4⟩
  obtain⟨A4,c4,rfl,_⟩:=hr4.form
  have HR4:=Aside0.mk hr4
  have HB4:=Aside0.mk hb4
  clear hr4 hb4
  go_wp2_with fail
  go_ret
  exact⟨_,rfl,HR4.out,HB4.out⟩
end Go.Proofs.YtaplpeoikebedaaGreatDoor.HeldT
namespace Go.Proofs.YtaplpeoikebedaaGreatDoor.FwdF
open Go.RowKit Go.Maps YtaplpeoikebedaaGreatDoorW.PrintWords YtaplpeoikebedaaGreatDoorW.PrintLast YtaplpeoikebedaaGreatDoorW.PrintMore
open See Mem Page Dirty SysD SysM SortI StoreD StoreF PageO LockT LockU HeldT FwdM FwdP
attribute [local go_sem] max2_imax min2_imin max_two min_two
theorem place_at (key P q:Int)(h0:0≤key)(h1:key<1048576)(h2:1≤P)(h3:P≤1000)(hq:placeOf key P=q)(w:World) :
    Calls Tryz.prog 125 #[.int .i64 key,.int .i64 P] w fun e w'=>e = .returned (.int .i64 q)∧w=w':=by
  subst hq;exact place_calls key P h0 h1 h2 h3 w
theorem nr_at {w:World}{A:Option Addr}{n cap:Nat}{xs:List Int}(h:NR w (.slice A n cap) xs){i:Nat}{x:Int}(hi:xs[i]? = some x) : ∃ad,A=some ad∧w.cell? (ad.add i)=some (.int .i64 x):=by
  obtain⟨A',c',hv,h0,h1⟩:=h.form
  injection hv with e1 e2 e3
  subst e1
  cases A with
  | none=>
    have:=(h0 rfl).1
    have hlt:i<xs.length:=(List.getElem?_eq_some_iff.1 hi).1
    omega
  | some ad=>exact⟨ad,rfl,(h1 ad rfl).1 i _ (by rw[List.getElem?_map,hi];rfl)⟩
def moreB (es:List (Int×Int))(P key k:Int):Bool := !(has es k) && (k != key && placeOf k P == placeOf key P)
def cntB (es:List (Int×Int))(P key:Int)(q:List Int)(i:Nat):Int:=((q.take i).filter (moreB es P key)).length
theorem cntB_succ (es:List (Int×Int))(P key:Int){q:List Int}{i:Nat}{k:Int}(h:q[i]? = some k):cntB es P key q (i+1)=cntB es P key q i+(if moreB es P key k then 1 else 0):=by
  obtain⟨h1,h2⟩:=List.getElem?_eq_some_iff.1 h
  unfold cntB
  rw[List.take_succ_eq_append_getElem h1,List.filter_append,List.length_append,h2]
  by_cases e:moreB es P key k=true
  · simp[e]
  · simp[e]
theorem cntB_le (es:List (Int×Int))(P key:Int)(q:List Int)(i:Nat):0≤cntB es P key q i∧cntB es P key q i≤q.length:=by
  unfold cntB
  have:=List.length_filter_le (moreB es P key) (q.take i)
  rw[List.length_take] at this
  omega
theorem cntB_all (es:List (Int×Int))(P key:Int)(ls:List Int):cntB es P key (sortI ls) (sortI ls).length=((ls.filter (moreB es P key)).length:Int):=by
  unfold cntB
  rw[List.take_length]
  have:=((List.mergeSort_perm ls fun x y=>decide (x≤y)).filter (moreB es P key)).length_eq
  unfold sortI
  rw[this]
theorem full_calls (M:Nat→Prop)(sp lp pp dp qp mp:Nat)(blocks frames:Int)(F:FS)(l0:Int)(v:Value)(es:List (Int×Int))(key:Int)(w:World)(h:FwM M w sp lp pp dp qp mp blocks frames F)(hp:P2 w 169 v es)(hr:Rising es)
    (hP1:1≤F.P) (hP2:F.P≤1000) (hk0:0≤key) (hk1:key<1048576) (hd:(heldL F.ks).Nodup) (hrng : ∀k∈heldL F.ks,0≤k∧k<1048576) (hes:es.length≤1000) :
    Calls Tryz.prog 71 #[.pointer (some ⟨sp,0,none⟩),.agg #[.int .i64 l0,v],.int .i64 key] w fun e w'=>
      e = .returned (.bool (decide ((20:Int)≤es.length+(((heldL F.ks).filter (moreB es F.P key)).length:Int))))∧Below w.heap.size w w':=by
  obtain⟨c0,_,_,_,_,_,_,_⟩:=h.cells
  obtain⟨kv,tv,b1,b2,_⟩:=h.box
  have HH:=Aside0.mk (fun (W:World) (hb:Below w.heap.size w W)=>held_calls sp 6 kv F.ks W (b2.below hb) (pw_cell_below hb (show w.cell? ⟨sp,6,none⟩=some kv by simp[World.cell?,b1,fwCells])) hd)
  have HPP:=Aside0.mk hp
  have HRR:=Aside0.mk hr
  have HC0:=Aside0.mk (fun (W:World) (hb:Below w.heap.size w W)=>pw_cell_below hb c0)
  obtain⟨q,hq⟩ : ∃q,sortI (heldL F.ks)=q:=⟨_,rfl⟩
  obtain⟨P,hPP⟩ : ∃P,F.P=P:=⟨_,rfl⟩
  obtain⟨el,hel⟩ : ∃el,es.length=el:=⟨_,rfl⟩
  have HALL:=Aside0.mk (show cntB es P key q q.length=(((heldL F.ks).filter (moreB es P key)).length:Int) by rw[←hq];exact cntB_all _ _ _ _)
  have HRNG:=Aside0.mk (show ∀k∈q,0≤k∧k<1048576 from fun k hk=>by
    rw[←hq] at hk
    unfold sortI at hk
    exact hrng k (List.mem_mergeSort.1 hk))
  have hql:q.length≤100000:=by rw[←hq,sortI_len];have:=heldL_len F.ks;have:=b2.2;omega
  rw[hq] at HH
  rw[hPP] at hP1 hP2 HC0 ⊢
  rw[hel] at hes ⊢
  have HEL:=Aside0.mk hel
  obtain⟨A,cap,rfl,_⟩:=ow_slice hp.1
  have hspl:=heap_lt b1
  rw[hel]
  clear h hp hr b1 b2 hd hrng hq hPP hel c0
  go_enter Tryz.func71,Tryz.ntmps71
  go_wp2_with fail
  refine (HH.out _ (by repeat (first | exact Below.refl _ _ | apply below_drew1 | apply below_alloc))).mono ?_
  rintro e w1 ⟨v1,rfl,hr1,hb1⟩
  obtain⟨A1,c1,rfl,_⟩:=hr1.form
  have HB4:=Aside0.mk (show w1.heap[w.heap.size]? = some (.cells #[.int .i64 l0,.slice A el cap] 74 (0,0)) from (hb1.block w.heap.size (by show _<(w.heap.push _).size;rw[Array.size_push];omega)).trans (heap_alloc_new w _))
  have HB1:=Aside0.mk (below_step (below_alloc (Below.refl w.heap.size w) _) hb1)
  have HR1:=Aside0.mk hr1
  obtain⟨n,hn⟩ : ∃n,q.length=n:=⟨_,rfl⟩
  have HN:=Aside0.mk hn
  rw[hn] at hql
  rw[hn]
  clear hb1 hr1 hn
  go_wp2_with fail
  go_loopg [7,20] (n+1) (fun kq v7 v20 w' => ∃(i c:Int),v7 = .int .i64 c∧v20 = .int .i64 i∧Aside0 (0≤i∧i≤n∧(kq:Int)=n+1 - i)∧Aside0 (c=el+cntB es P key q i.toNat)∧Aside0 (Below w1.heap.size w1 w'))
  case atStart=>exact⟨0,_,rfl,rfl,⟨by omega,by omega,by omega⟩,⟨by unfold cntB;simp⟩,⟨Below.refl _ _⟩⟩
  case round=>
    obtain⟨i,c,rfl,rfl,HI,HC,HB⟩:=hrel
    have hi0:0≤i:=HI.out.1
    have hcb:0≤c∧c≤200000:=by have:=HC.out;have:=cntB_le es P key q i.toNat;have:=HN.out;omega
    obtain⟨hcb0,hcb1⟩:=hcb
    by_cases hlt:i<n
    · obtain⟨k,hk⟩ : ∃k,q[i.toNat]? = some k:=⟨_,List.getElem?_eq_getElem (by have:=HN.out;omega)⟩
      obtain⟨ad,rfl,hck⟩:=nr_at (HR1.out.below HB.out) hk
      have HCS:=Aside0.mk (cntB_succ es P key hk)
      obtain⟨k0,k1⟩:=HRNG.out k (List.mem_of_getElem? hk)
      have hbb:wr.heap[w.heap.size]? = some (.cells #[.int .i64 l0,.slice A el cap] 74 (0,0)):=(HB.out.block _ (heap_lt HB4.out)).trans HB4.out
      have y0:wr.cell? ⟨w.heap.size,0,none⟩=some (.int .i64 l0):=by simp[World.cell?,hbb]
      have y1:wr.cell? ⟨w.heap.size,1,none⟩=some (.slice A el cap):=by simp[World.cell?,hbb]
      have HBW:=Aside0.mk (below_step HB1.out HB.out)
      have HEG:=Aside0.mk (by have:=eget_calls l0 (.slice A el cap) es k wr (by have:=HPP.out.below HBW.out;rw[HEL.out] at this;exact this) HRR.out;exact this)
      clear hbb hk
      go_wp2_with fail
      refine HEG.out.mono ?_
      rintro e w2 ⟨rfl,hb2⟩
      have HB2:=Aside0.mk (below_step HB.out hb2)
      have z0:=HC0.out w2 (below_step HBW.out hb2)
      obtain⟨b,hb⟩ : ∃b,has es k=b:=⟨_,rfl⟩
      rw[hb]
      have HHB:=Aside0.mk hb
      clear hb2 hck y0 y1 hb
      obtain⟨pk,hpk⟩ : ∃pk,placeOf k P=pk:=⟨_,rfl⟩
      obtain⟨pq,hpq⟩ : ∃pq,placeOf key P=pq:=⟨_,rfl⟩
      have HPK:=Aside0.mk hpk
      have HPQ:=Aside0.mk hpq
      clear hpk hpq
      cases b with
      | true=>
        have HNO:=Aside0.mk (show moreB es P key k=false by unfold moreB;rw[HHB.out];rfl)
        go_wp2_with fail
        go_quiet (fail)
        have HBQ:=Aside0.mk (pw_below_drewN HB2.out nq)
        go_wp2_with fail
        go_roundg (gk - 1)
        case measure=>have:=HI.out;omega
        case rel=>exact⟨i+1,c,rfl,rfl,⟨by omega,by omega,by have:=HI.out;omega⟩,⟨by rw[show (i+1).toNat=i.toNat+1 from by omega,HCS.out,HNO.out];simp;exact HC.out⟩,HBQ⟩
      | false=>
        by_cases hkk:k=key
        · have hne:(k != key)=false:=by simp[hkk]
          have HNO:=Aside0.mk (show moreB es P key k=false by unfold moreB;rw[HHB.out,hne];rfl)
          go_wp2_with fail
          go_quiet (fail)
          have HBQ:=Aside0.mk (pw_below_drewN HB2.out nq)
          go_wp2_with fail
          go_roundg (gk - 1)
          case measure=>have:=HI.out;omega
          case rel=>exact⟨i+1,c,rfl,rfl,⟨by omega,by omega,by have:=HI.out;omega⟩,⟨by rw[show (i+1).toNat=i.toNat+1 from by omega,HCS.out,HNO.out];simp;exact HC.out⟩,HBQ⟩
        · have hne:(k != key)=true:=by simp[hkk]
          have HPC:=Aside0.mk (fun (V:World)=>(place_at k P pk k0 k1 hP1 hP2 HPK.out V).mono fun e w' h=>(⟨h.1,h.2.symm⟩:e = .returned (.int .i64 pk)∧w'=V))
          have HPD:=Aside0.mk (fun (V:World)=>(place_at key P pq hk0 hk1 hP1 hP2 HPQ.out V).mono fun e w' h=>(⟨h.1,h.2.symm⟩:e = .returned (.int .i64 pq)∧w'=V))
          by_cases hpe:pk=pq
          · have hpe':(pk == pq)=true:=by simp[hpe]
            have HNO:=Aside0.mk (show moreB es P key k=true by unfold moreB;rw[HHB.out,hne,HPK.out,HPQ.out,hpe'];rfl)
            have hwc:IntKind.i64.wrap (c+1)=c+1:=by rw[IntKind.wrap_i64];omega
            go_wp2_with fail
            go_quiet (first | (go_at_call_of 125 (Value.int .i64 k);refine Calls.quiet_of_same (HPC.out _)) | (go_at_call_of 125 (Value.int .i64 key);refine Calls.quiet_of_same (HPD.out _)))
            have HBQ:=Aside0.mk (pw_below_drewN HB2.out nq)
            go_wp2_with fail
            go_roundg (gk - 1)
            case measure=>have:=HI.out;omega
            case rel=>exact⟨i+1,c+1,rfl,rfl,⟨by omega,by omega,by have:=HI.out;omega⟩,⟨by rw[show (i+1).toNat=i.toNat+1 from by omega,HCS.out,HNO.out];simp;have:=HC.out;omega⟩,HBQ⟩
          · have hpe':(pk == pq)=false:=by simp[hpe]
            have HNO:=Aside0.mk (show moreB es P key k=false by unfold moreB;rw[HHB.out,hne,HPK.out,HPQ.out,hpe'];rfl)
            go_wp2_with fail
            go_quiet (first | (go_at_call_of 125 (Value.int .i64 k);refine Calls.quiet_of_same (HPC.out _)) | (go_at_call_of 125 (Value.int .i64 key);refine Calls.quiet_of_same (HPD.out _)))
            have HBQ:=Aside0.mk (pw_below_drewN HB2.out nq)
            go_wp2_with fail
            go_roundg (gk - 1)
            case measure=>have:=HI.out;omega
            case rel=>exact⟨i+1,c,rfl,rfl,⟨by omega,by omega,by have:=HI.out;omega⟩,⟨by rw[show (i+1).toNat=i.toNat+1 from by omega,HCS.out,HNO.out];simp;exact HC.out⟩,HBQ⟩
    · have HE:=Aside0.mk (show c=el+(((heldL F.ks).filter (moreB es P key)).length:Int) by rw[←HALL.out,HC.out,show i.toNat=q.length from by have:=HI.out;have:=HN.out;omega])
      go_wp2_with fail
      refine bodyPost_ret (v:=.bool (decide ((20:Int)≤c))) (by simp[results,Tryz.results71,go_sem]) rfl ⟨by rw[HE.out],below_step HB1.out HB.out⟩
end Go.Proofs.YtaplpeoikebedaaGreatDoor.FwdF
namespace Go.Proofs.YtaplpeoikebedaaGreatDoor.FwdU
open Go.RowKit Go.Maps YtaplpeoikebedaaGreatDoorW.PrintWords YtaplpeoikebedaaGreatDoorW.PrintLast YtaplpeoikebedaaGreatDoorW.PrintMore
open See Mem Page PageB PageR PageL Disk DiskN DiskW RecD Rec Dirty Wal WalF SysD SysM PoolG Pager StoreD PageM StoreF StoreG StoreI StoreJ PageO HeldT TransT LockT LockU SpaceT WaitT FwdM FwdP FwdC FwdF FwdT FwdB FwdS
attribute [local go_sem] max2_imax min2_imin max_two min_two
def PutPost (a:Nat→Addr)(M:Nat→Prop)(sp lp pp dp qp mp:Nat)(blocks frames:Int)(R:FS×Int×Bool×Option Nat)(w:World)(e:Ending)(w':World):Prop:=
  e = .returned (.tuple #[.int .i64 R.2.1,.bool R.2.2.1,errv a R.2.2.2])∧FwPost M sp lp pp dp qp mp blocks frames R.1 w w'
theorem put_calls (a:Nat→Addr)(M:Nat→Prop)(sp lp pp dp qp mp:Nat)(blocks frames:Int)(F:FS)(n key v hint:Int)(N m:Nat)(ch:Int→List Int)(kp:Int→Int)(own:Int→Int)(w:World)(h:FwM M w sp lp pp dp qp mp blocks frames F)(hok:FOk N m ch kp F)(hk:KOk own F.ks)(he:own key=n)(hs:SentsAll w a)(hO:OutAll M a)(h0:0≤n)(h1:n<F.sess)(h2:F.sess≤1000)
    (hx:thas F.ts (F.of n)=true) (hk0:0≤key) (hk1:key<1048576) (hl:F.ks.length≤80000) (hm:m≤30000) (hh0 : -9223372036854775808≤hint) (hh1:hint≤9223372036854775807) (hv:is64 v) :
    Calls Tryz.prog 22 #[.pointer (some ⟨sp,0,none⟩),.int .i64 n,.int .i64 key,.int .i64 v,.int .i64 hint] w (PutPost a M sp lp pp dp qp mp blocks frames (putR F n key v hint) w):=by
  have HT:=Aside0.mk (takes_calls a M sp lp pp dp qp mp blocks frames F n key hint N m ch kp own w h hok hk he hs hO h0 h1 h2 hx hk0 hk1 hl hm hh0 hh1)
  have HS:=Aside0.mk hs
  have HO:=Aside0.mk hO
  have HOK:=Aside0.mk hok
  have HK:=Aside0.mk hk
  have HE:=Aside0.mk he
  have HX:=Aside0.mk hx
  have HV:=Aside0.mk hv
  have HTK:=Aside0.mk (takes_ok hok hk he ⟨hk0,hk1⟩ hint)
  obtain⟨x,hxx⟩ : ∃x,tget F.ts (F.of n)=x:=⟨_,rfl⟩
  obtain⟨l0,hl0⟩ : ∃l0,(cur F.S (placeOf key F.P)).1=l0:=⟨_,rfl⟩
  obtain⟨es,hes⟩ : ∃es,(cur F.S (placeOf key F.P)).2=es:=⟨_,rfl⟩
  have HXX:=Aside0.mk (And.intro hxx (And.intro hl0 hes))
  unfold TakesPost at HT
  rw[hxx,hl0,hes] at HT
  obtain⟨xi,xs,xl,xn⟩:=x
  simp only[txV] at HT
  clear h hok hk he hs hO hl hm hx hxx h0 h1 h2 hh0 hh1 hv hl0 hes
  go_enter Tryz.func22,Tryz.ntmps22
  go_wp2_with fail
  refine HT.out.mono ?_
  rintro e w1 ⟨sl,rfl,hp,hpost⟩
  obtain⟨A,c,rfl,_⟩:=ow_slice hp.1
  obtain⟨el,hel⟩ : ∃el,es.length=el:=⟨_,rfl⟩
  have HEL:=Aside0.mk hel
  rw[hel] at hp ⊢
  have HP1:=Aside0.mk hp
  have HP:=Aside0.mk hpost
  clear hp hpost hel
  obtain⟨W,hW⟩ : ∃W,(w1.alloc (.cells #[.int .i64 xi,.int .i64 xs,.int .i64 xl,.int .i64 xn] 102)).alloc (.cells #[.int .i64 l0,.slice A el c] 74)=W:=⟨_,rfl⟩
  have HBW:=Aside0.mk (show Below w1.heap.size w1 W from by rw[←hW];repeat (first | exact Below.refl _ _ | apply below_alloc))
  obtain⟨bx,hbx⟩ : ∃bx,w1.heap.size=bx:=⟨_,rfl⟩
  obtain⟨bg,hbg⟩ : ∃bg,w1.heap.size+1=bg:=⟨_,rfl⟩
  have HXB:=Aside0.mk (show W.heap[bx]? = some (.cells #[.int .i64 xi,.int .i64 xs,.int .i64 xl,.int .i64 xn] 102 (0,0)) from by
    rw[←hW,←hbx]
    exact (Below.heap_alloc _ _ _ (by show _<(w1.heap.push _).size;rw[Array.size_push];omega)).trans (heap_alloc_new w1 _))
  have HGB:=Aside0.mk (show W.heap[bg]? = some (.cells #[.int .i64 l0,.slice A el c] 74 (0,0)) from by
    rw[←hW,←hbg]
    exact ChangeT.alloc_at _ _ (show (w1.alloc _).heap.size=w1.heap.size+1 from by show (w1.heap.push _).size=_;rw[Array.size_push]))
  have HWN:=Aside0.mk (And.intro hW (And.intro hbx hbg))
  clear hW hbx hbg
  go_upto_region 2 with fail
  rw[HWN.out.1,HWN.out.2.2,HWN.out.2.1]
  obtain⟨x0,x1,x2,x3,_,_,_,_⟩:=tx_cells HXB.out
  obtain⟨_,_,g0,g1⟩:=FwdT.pg_cells HGB.out
  have hbxl:=heap_lt HXB.out
  have hbgl:=heap_lt HGB.out
  have HFW:=Aside0.mk (HP.out.1.below HBW.out)
  have HPW:=Aside0.mk (HP1.out.below HBW.out)
  have HRISE:=Aside0.mk (show Rising es from by
    have hp2:=placeOf_in key HOK.out.g.pg.pages
    rw[←HXX.out.2.2]
    exact PageV.rise (HOK.out.g.pg.curV hp2.1 hp2.2))
  have HEG:=Aside0.mk (eget_calls l0 (.slice A el c) es key W HPW.out HRISE.out)
  go_wp2_with fail
  refine HEG.out.mono ?_
  rintro e w2 ⟨rfl,hb2⟩
  have HB2:=Aside0.mk (below_step HBW.out hb2)
  have HF2:=Aside0.mk (HFW.out.below hb2)
  have HP2:=Aside0.mk (HPW.out.below hb2)
  have HS2:=Aside0.mk (SentsAll.kp (SentsAll.kp HS.out HP.out.2 HO.out) (Kp.of_below (M:=fun _=>False) HB2.out) (fun _ _=>⟨id,id⟩))
  have HO2:=Aside0.mk (OutAll.gr (w':=w1) HO.out HS.out)
  have HX2:=Aside0.mk ((hb2.block _ (heap_lt HXB.out)).trans HXB.out)
  have HG2:=Aside0.mk ((hb2.block _ (heap_lt HGB.out)).trans HGB.out)
  clear hb2 x0 x1 x2 x3 g0 g1 hbxl hbgl
  obtain⟨had,hhad⟩ : ∃b,has es key=b:=⟨_,rfl⟩
  obtain⟨old,hold⟩ : ∃o,fromOf es key=o:=⟨_,rfl⟩
  have HHAD:=Aside0.mk (And.intro hhad hold)
  rw[hhad,hold]
  clear hhad hold
  have HSET:=Aside0.mk (show (had=true∨fullB (takesF F n key 2 hint) key=false)→∀(V:World),Below w2.heap.size w2 V→Calls Tryz.prog 72 #[.pointer (some ⟨sp,0,none⟩),.agg #[.int .i64 xi,.int .i64 xs,.int .i64 xl,.int .i64 xn],.agg #[.int .i64 l0,.slice A el c],.agg #[.int .i64 0,.int .i64 0,.int .i64 0,.int .i64 0,.int .i64 0,.int .i64 key,.bool had,.bool true,.int .i64 old,.int .i64 v]] V (fun e w'=>
      (F.free<2∧e = .returned (errv a (some 8))∧FwPost (Gr M w w1) sp lp pp dp qp mp blocks frames (takesF F n key 2 hint) V w')∨(¬F.free<2∧e = .returned .nilIface∧FwPost (Gr M w w1) sp lp pp dp qp mp blocks frames (setF (takesF F n key 2 hint) (F.of n) key had old true v) V w')) from fun hfl V hbl=>by
    obtain⟨t1,t2,t3,t4,t5,t6,t7,t8,t9⟩:=HTK.out
    obtain⟨p1,p2⟩:=placeOf_in key HOK.out.g.pg.pages
    have hcur:=t5 _ p1 p2
    have hP:(takesF F n key 2 hint).P=F.P:=rfl
    have htg:tget (takesF F n key 2 hint).ts (F.of n)=⟨xi,xs,xl,xn⟩:=HXX.out.1
    by_cases hfr:F.free<2
    · have:=set_low a (Gr M w w1) sp lp pp dp qp mp blocks frames (takesF F n key 2 hint) ⟨xi,xs,xl,xn⟩ l0 (.slice A el c) (rec0 key had old true v) V (HF2.out.below hbl) (HS2.out.below hbl) hfr ⟨A,el,c,rfl⟩
      exact this.mono fun e w' hh=>.inl ⟨hfr,hh.1,hh.2⟩
    · obtain⟨y,y1,y2,y3,y4⟩:=t8
      have hpo:=put_ok (F:=takesF F n key 2 hint) (id:=F.of n) (key:=key) (v:=v) t2 HX.out t6 ⟨hk0,hk1⟩ HV.out ⟨y,y1,y2,y3,by rw[y4];rfl⟩ (by show 2≤F.free;omega) (by
        rw[hP,hcur,HXX.out.2.2,HHAD.out.1]
        exact hfl)
      rw[hP,hcur,HXX.out.2.2,HHAD.out.1,HHAD.out.2] at hpo
      obtain⟨q1,q2,q3,_,_⟩:=hpo
      have hg:=t2.g
      obtain⟨r1,r2,r3⟩:=hg.room
      have hp32:=hg.p32
      have hpg:=hg.pg.pages
      have hl0:l0<(takesF F n key 2 hint).S.l.last+1:=by
        have:=hg.lsn (placeOf key F.P) p1 p2
        rw[hcur,HXX.out.2.1] at this
        omega
      have hroom:1≤(takesF F n key 2 hint).S.l.room:=by
        have:(takesF F n key 2 hint).free=F.free:=rfl
        omega
      have htf:=tab_few hg.pg
      have:=set_done a (Gr M w w1) sp lp pp dp qp mp blocks frames (takesF F n key 2 hint) (F.of n) l0 (.slice A el c) es key had old true v V (HF2.out.below hbl) (HS2.out.below hbl) HO2.out HX.out t2.t.rise (HP2.out.below hbl) HRISE.out hk0 hk1 hpg (by omega) (by show 2≤F.free;omega) ⟨(room_top hg).1,r2,(room_top hg).2⟩ q2 hroom hl0 (fun _=>by
        rcases hfl with h | h
        · exact .inl (by rw[HHAD.out.1];exact h)
        · unfold fullB at h
          rw[hP,hcur,HXX.out.2.2] at h
          have : ¬20≤es.length+(moreL (takesF F n key 2 hint) key).length:=by simpa using h
          exact .inr (by omega)) (by have:=hg.pg.frames;have:=HF2.out.sys.frames.2;omega) (tget_mem HX.out).2 q1
      rw[htg] at this
      exact this.mono fun e w' hh=>.inr ⟨hfr,hh.1,hh.2⟩)
  have HR9:=Aside0.mk (show had=false→fullB (takesF F n key 2 hint) key=true→putR F n key v hint=(takesF F n key 2 hint,0,false,some 9) from fun h1 h2=>by
    unfold putR
    rw[HXX.out.2.2,HHAD.out.1,if_pos ⟨h1,h2⟩])
  have HNF:=Aside0.mk (show (had=true∨fullB (takesF F n key 2 hint) key=false)→¬(had=false∧fullB (takesF F n key 2 hint) key=true) from fun h1 h2=>by
    rcases h1 with h1 | h1
    · rw[h1] at h2;exact absurd h2.1 (by decide)
    · rw[h1] at h2;exact absurd h2.2 (by decide))
  have HR8:=Aside0.mk (show (had=true∨fullB (takesF F n key 2 hint) key=false)→F.free<2→putR F n key v hint=(takesF F n key 2 hint,0,false,some 8) from fun h1 h2=>by
    unfold putR
    rw[HXX.out.2.2,HHAD.out.1,if_neg (HNF.out h1),if_pos h2])
  have HR0:=Aside0.mk (show (had=true∨fullB (takesF F n key 2 hint) key=false)→¬F.free<2→putR F n key v hint=(setF (takesF F n key 2 hint) (F.of n) key had old true v,old,had,none) from fun h1 h2=>by
    unfold putR
    rw[HXX.out.2.2,HHAD.out.1,HHAD.out.2,if_neg (HNF.out h1),if_neg h2])
  obtain⟨x0,x1,x2,x3,_,_,_,_⟩:=tx_cells HX2.out
  obtain⟨_,_,g0,g1⟩:=FwdT.pg_cells HG2.out
  have hxl:=heap_lt HX2.out
  have hgl:=heap_lt HG2.out
  cases had with
  | true=>
    have HBK:=HB2
    go_wp2_with fail
    refine (HSET.out (.inl (by simp)) _ (Below.refl _ _)).mono ?_
    rintro e w3 hset
    rcases hset with ⟨hlt,rfl,hp⟩ | ⟨hge,rfl,hp⟩
    · have HPF:=Aside0.mk (FwPost.trans HP.out fun _=>hp.back HBK.out)
      have HRF:=Aside0.mk (HR8.out (.inl (by simp)) hlt)
      clear hp hlt x0 x1 x2 x3 g0 g1 hxl hgl
      rw[show errv a (some 8) = .iface 333 (.pointer (some (a 8))) from rfl]
      go_wp2_with fail
      refine bodyPost_ret (v:=.tuple #[.int .i64 0,.bool false,.iface 333 (.pointer (some (a 8)))]) (by simp[results,Tryz.results22,go_sem]) rfl ?_
      unfold PutPost
      rw[HRF.out]
      exact⟨rfl,HPF.out⟩
    · have HPF:=Aside0.mk (FwPost.trans HP.out fun _=>hp.back HBK.out)
      have HRF:=Aside0.mk (HR0.out (.inl (by simp)) hge)
      clear hp hge x0 x1 x2 x3 g0 g1 hxl hgl
      go_wp2_with fail
      refine bodyPost_ret (v:=.tuple #[.int .i64 old,.bool true,.nilIface]) (by simp[results,Tryz.results22,go_sem]) rfl ?_
      unfold PutPost
      rw[HRF.out]
      exact⟨rfl,HPF.out⟩
  | false=>
    have HFL:=Aside0.mk (show decide ((20:Int)≤es.length+(((heldL (takesF F n key 2 hint).ks).filter (moreB es (takesF F n key 2 hint).P key)).length:Int))=fullB (takesF F n key 2 hint) key from by
      obtain⟨p1,p2⟩:=placeOf_in key HOK.out.g.pg.pages
      have hcur:=HTK.out.2.2.2.2.1 _ p1 p2
      have hP:(takesF F n key 2 hint).P=F.P:=rfl
      unfold fullB moreL
      rw[hP,hcur,HXX.out.2.2]
      refine decide_eq_decide.2 ?_
      show (20:Int)≤es.length+(((heldL (takesF F n key 2 hint).ks).filter fun k => !(has es k) && (k != key && placeOf k F.P == placeOf key F.P)).length:Int)↔_
      omega)
    have HFC:=Aside0.mk (by
      have hk3:=HTK.out.2.2.1
      have:=full_calls (Gr M w w1) sp lp pp dp qp mp blocks frames (takesF F n key 2 hint) l0 (.slice A el c) es key w2 HF2.out HP2.out HRISE.out HOK.out.g.pg.pages (by have:=HOK.out.g.p32;show F.P≤1000;omega) hk0 hk1 (by rw[hk3.held];exact hk3.once) (fun k hk=>by
        rw[hk3.held] at hk
        obtain⟨y,hy,rfl⟩:=List.mem_map.1 hk
        exact hk3.rng y hy) (by
        obtain⟨p1,p2⟩:=placeOf_in key HOK.out.g.pg.pages
        have:=(head_facts (headOk_of (HOK.out.g.pg.curV p1 p2).1)).2.2
        rw[HXX.out.2.2] at this
        omega)
      rw[HFL.out] at this
      exact this)
    obtain⟨fl,hfl⟩ : ∃b,fullB (takesF F n key 2 hint) key=b:=⟨_,rfl⟩
    rw[hfl] at HFC HSET HR9 HR8 HR0
    clear hfl
    have hg9:w2.cell? ⟨4,0,none⟩=some (.iface 333 (.pointer (some (a 9)))):=HS2.out.cell 9 (by decide)
    clear hg9
    go_wp2_with fail
    refine HFC.out.mono ?_
    rintro e w3 ⟨rfl,hb3⟩
    have HBK:=Aside0.mk (below_step HB2.out hb3)
    have HX3:=Aside0.mk ((hb3.block _ (heap_lt HX2.out)).trans HX2.out)
    have HG3:=Aside0.mk ((hb3.block _ (heap_lt HG2.out)).trans HG2.out)
    have HB3:=Aside0.mk hb3
    clear hb3 x0 x1 x2 x3 g0 g1 hxl hgl
    cases fl with
    | true=>
      have hg9:w3.cell? ⟨4,0,none⟩=some (.iface 333 (.pointer (some (a 9)))):=(HS2.out.below HB3.out).cell 9 (by decide)
      have HRF:=Aside0.mk (HR9.out (by simp) (by simp))
      go_wp2_with fail
      go_quiet (fail)
      have HPF:=Aside0.mk (FwPost.step HP.out (pw_below_drewN HBK.out nq))
      go_wp2_with fail
      refine bodyPost_ret (v:=.tuple #[.int .i64 0,.bool false,.iface 333 (.pointer (some (a 9)))]) (by simp[results,Tryz.results22,go_sem]) rfl ?_
      unfold PutPost
      rw[HRF.out]
      exact⟨rfl,HPF.out⟩
    | false=>
      obtain⟨x0,x1,x2,x3,_,_,_,_⟩:=tx_cells HX3.out
      obtain⟨_,_,g0,g1⟩:=FwdT.pg_cells HG3.out
      have hxl:=heap_lt HX3.out
      have hgl:=heap_lt HG3.out
      go_wp2_with fail
      refine (HSET.out (.inr (by simp)) _ HB3.out).mono ?_
      rintro e w4 hset
      rcases hset with ⟨hlt,rfl,hp⟩ | ⟨hge,rfl,hp⟩
      · have HPF:=Aside0.mk (FwPost.trans HP.out fun _=>hp.back HBK.out)
        have HRF:=Aside0.mk (HR8.out (.inr (by simp)) hlt)
        clear hp hlt x0 x1 x2 x3 g0 g1 hxl hgl
        rw[show errv a (some 8) = .iface 333 (.pointer (some (a 8))) from rfl]
        go_wp2_with fail
        refine bodyPost_ret (v:=.tuple #[.int .i64 0,.bool false,.iface 333 (.pointer (some (a 8)))]) (by simp[results,Tryz.results22,go_sem]) rfl ?_
        unfold PutPost
        rw[HRF.out]
        exact⟨rfl,HPF.out⟩
      · have HPF:=Aside0.mk (FwPost.trans HP.out fun _=>hp.back HBK.out)
        have HRF:=Aside0.mk (HR0.out (.inr (by simp)) hge)
        clear hp hge x0 x1 x2 x3 g0 g1 hxl hgl
        go_wp2_with fail
        refine bodyPost_ret (v:=.tuple #[.int .i64 old,.bool false,.nilIface]) (by simp[results,Tryz.results22,go_sem]) rfl ?_
        unfold PutPost
        rw[HRF.out]
        exact⟨rfl,HPF.out⟩
end Go.Proofs.YtaplpeoikebedaaGreatDoor.FwdU
