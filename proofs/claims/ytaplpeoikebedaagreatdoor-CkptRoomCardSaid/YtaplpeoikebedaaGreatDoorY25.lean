/- Joined texts: LockT, LockU, SpaceT. No condition but what each says. -/
import Derived.Test.YtaplpeoikebedaaGreatDoorY24
import Derived.Test.YtaplpeoikebedaaGreatDoorY18
import Derived.Deep.RegionLaw
import Derived.Deep.AppendLies
import Derived.Test.YtaplpeoikebedaaGreatDoorY4
set_option maxHeartbeats 8000000
set_option maxRecDepth 100000
set_option linter.unusedVariables false
set_option linter.unusedSimpArgs false
namespace Go.Proofs.YtaplpeoikebedaaGreatDoor.LockT
open Go.RowKit YtaplpeoikebedaaGreatDoorW.PrintWords YtaplpeoikebedaaGreatDoorW.PrintLast YtaplpeoikebedaaGreatDoorW.PrintMore
open See Mem Clone Go.Proofs.YtaplpeoikebedaaGreatDoor.Cell Page PageR Disk DiskN Pool1 Pool2 Rw Del Num SortI StoreD TransT
attribute [local go_sem] max2_imax min2_imin max_two min_two
def lkCells (ls:List Lk):List Value:=ls.flatMap fun h=>[.int .i64 h.s,.int .i64 h.key,.int .i64 h.mode]
theorem lkCells_len (ls:List Lk):(lkCells ls).length=ls.length*3:=by
  induction ls with
  | nil=>rfl
  | cons t ts ih=>unfold lkCells at ih ⊢;rw[List.flatMap_cons,List.length_append,ih];simp;omega
theorem lkCells_at : ∀(ls:List Lk) (i:Nat) (t:Lk),ls[i]? = some t→(lkCells ls)[i*3]? = some (.int .i64 t.s)∧(lkCells ls)[i*3+1]? = some (.int .i64 t.key)∧(lkCells ls)[i*3+2]? = some (.int .i64 t.mode)
  | [],i,t,h=>by simp at h
  | x :: ls,0,t,h=>by
    simp at h
    subst h
    simp[lkCells]
  | x :: ls,i+1,t,h=>by
    have:=lkCells_at ls i t (by simpa using h)
    unfold lkCells at this ⊢
    rw[show (i+1)*3=i*3+1+1+1 from by omega]
    simpa using this
theorem lkCells_append (a b:List Lk):lkCells (a++b)=lkCells a++lkCells b:=by unfold lkCells;rw[List.flatMap_append]
def LR (w:World)(v:Value)(ls:List Lk):Prop:=w.ownsRow 0 265 3 v ls.length (lkCells ls)∧ls.length≤100000
theorem LR.nil (w:World):LR w (.slice none 0 0) []:=⟨⟨rfl,.inl ⟨rfl,rfl⟩⟩,by simp⟩
theorem LR.below {w w':World}{v:Value}{ls:List Lk}(h:LR w v ls)(hb:Below w.heap.size w w'):LR w' v ls:=⟨ow_below h.1 hb,h.2⟩
theorem LR.frm {T:List Nat}{M:Nat→Prop}{w w':World}{v:Value}{ls:List Lk}(h:LR w v ls)(hf:Frm T M w w')(ht:265∉T):LR w' v ls:=⟨ow_frm h.1 hf ht,h.2⟩
theorem LR.form {w:World}{v:Value}{ls:List Lk}(h:LR w v ls):(v = .slice none 0 0∧ls=[]) ∨
    ∃g c,v = .slice (some ⟨g,0,none⟩) ls.length c∧(∀i t,ls[i]? = some t→w.cell? ⟨g,i*3,none⟩=some (.int .i64 t.s)∧w.cell? ⟨g,i*3+1,none⟩=some (.int .i64 t.key)∧w.cell? ⟨g,i*3+2,none⟩=some (.int .i64 t.mode))∧g<w.heap.size:=by
  rcases h.1.2 with ⟨hv,h0⟩ | ⟨g,cap,cur,hv,hg,hh,hnc,hcm,hsz,htk⟩
  · exact .inl ⟨hv,List.eq_nil_of_length_eq_zero h0⟩
  · have hx : ∀(j:Nat) (u:Value),j<ls.length*3→(lkCells ls)[j]? = some u→w.cell? ⟨g,j,none⟩=some u:=fun j u hj hu=>by
      rw[←htk,List.getElem?_take,if_pos hj] at hu
      simp only[World.cell?,hh]
      simpa using hu
    refine .inr ⟨g,cap,hv,fun i t ht => ?_,heap_lt hh⟩
    have hlt:i<ls.length:=(List.getElem?_eq_some_iff.1 ht).1
    obtain⟨c0,c1,c2⟩:=lkCells_at ls i t ht
    exact⟨hx _ _ (by omega) c0,hx _ _ (by omega) c1,hx _ _ (by omega) c2⟩
theorem LR.at {w:World}{A:Option Addr}{l cap:Nat}{ls:List Lk}(h:LR w (.slice A l cap) ls){i:Nat}{f:Lk}(hi:ls[i]? = some f) :
    ∃g,A=some ⟨g,0,none⟩∧l=ls.length∧w.cell? ⟨g,i*3,none⟩=some (.int .i64 f.s)∧w.cell? ⟨g,i*3+1,none⟩=some (.int .i64 f.key)∧w.cell? ⟨g,i*3+2,none⟩=some (.int .i64 f.mode):=by
  rcases h.form with ⟨_,h0⟩ | ⟨g,c,hv,hc,_⟩
  · rw[h0] at hi;cases hi
  · injection hv with h1 h2 h3
    subst h1 h2
    exact⟨g,rfl,rfl,hc i f hi⟩
theorem is_calls (m:Int)(hm:m=1∨m=2)(w:World):Calls Tryz.prog 174 #[.int .i64 m] w fun e w'=>e = .returned (.bool true)∧w=w':=by
  rcases hm with rfl | rfl
  all_goals
    go_enter Tryz.func174,Tryz.ntmps174
    go_wp2
    go_ret
    simp
theorem clos_take (b1 b2:Nat)(s key s1 k1 m1:Int)(w:World)(h1:w.cell? ⟨b1,0,none⟩=some (.int .i64 s))(h2:w.cell? ⟨b2,0,none⟩=some (.int .i64 key)) :
    Calls Tryz.prog 176 #[.agg #[.int .i64 s1,.int .i64 k1,.int .i64 m1],.pointer (some ⟨b1,0,none⟩),.pointer (some ⟨b2,0,none⟩)] w fun e w'=>e = .returned (.bool (s1 == s && k1 == key))∧Below w.heap.size w w':=by
  have hlt1:b1<w.heap.size:=World.block_lt_of_cell? _ _ h1
  have hlt2:b2<w.heap.size:=World.block_lt_of_cell? _ _ h2
  by_cases hs:s1=s
  · have q:(s1 == s)=true:=by simpa using hs
    go_enter Tryz.func176,Tryz.ntmps176
    go_wp2_with fail
    go_ret
    exact⟨by simp[q],by repeat (first | exact Below.refl _ _ | apply pw_below_drewN | apply below_drew1 | apply below_alloc)⟩
  · have q:(s1 == s)=false:=by simpa using hs
    go_enter Tryz.func176,Tryz.ntmps176
    go_wp2_with fail
    go_ret
    exact⟨by simp[q],by repeat (first | exact Below.refl _ _ | apply pw_below_drewN | apply below_drew1 | apply below_alloc)⟩
theorem lkIdx_hit (s key:Int) : ∀(fs:List Lk) (k:Int) (i:Nat) (f:Lk),(∀j g,j<i→fs[j]? = some g→¬(g.s=s∧g.key=key))→fs[i]? = some f→(f.s=s∧f.key=key)→lkIdx s key fs k=k+i
  | [],k,i,f,_,h,_=>by simp at h
  | g :: fs,k,0,f,_,h,hn=>by
    simp at h;subst h
    unfold lkIdx;rw[if_pos hn];omega
  | g :: fs,k,i+1,f,hj,h,hn=>by
    unfold lkIdx
    rw[if_neg (hj 0 g (by omega) rfl),lkIdx_hit s key fs (k+1) i f (fun j q hq hq2=>hj (j+1) q (by omega) (by simpa using hq2)) (by simpa using h) hn]
    omega
theorem lkIdx_none (s key:Int) : ∀(fs:List Lk) (k:Int),(∀f∈fs,¬(f.s=s∧f.key=key))→lkIdx s key fs k = -1
  | [],k,_=>rfl
  | g :: fs,k,h=>by
    unfold lkIdx
    rw[if_neg (h g (List.mem_cons_self ..)),lkIdx_none s key fs (k+1) fun f hf=>h f (List.mem_cons_of_mem _ hf)]
theorem index_take (v:Value)(fs:List Lk)(b1 b2:Nat)(s key:Int)(w:World)(hf:LR w v fs)(h1:w.cell? ⟨b1,0,none⟩=some (.int .i64 s))(h2:w.cell? ⟨b2,0,none⟩=some (.int .i64 key)) :
    Calls Tryz.prog 175 #[v,.func (.func 176) #[] #[.pointer (some ⟨b1,0,none⟩),.pointer (some ⟨b2,0,none⟩)]] w fun e w'=>e = .returned (.int .i64 (lkIdx s key fs 0))∧Below w.heap.size w w':=by
  obtain⟨A,cap,rfl,_⟩:=ow_slice hf.1
  obtain⟨l,hl⟩ : ∃l,fs.length=l:=⟨_,rfl⟩
  have HL:=Aside0.mk hl
  have HF:=Aside0.mk hf
  have HC1:=Aside0.mk h1
  have HC2:=Aside0.mk h2
  have hl8:l≤100000:=by rw[←hl];exact hf.2
  rw[hl]
  clear hf h1 h2 hl
  go_enter Tryz.func175,Tryz.ntmps175
  go_wp2_with fail
  go_loopg [8] (l+1) (fun kq v8 w' => ∃i:Int,v8 = .int .i64 i∧Aside0 (0≤i∧i≤l∧(kq:Int)=l+1 - i)∧Aside0 (∀(j:Nat) (g:Lk),(j:Int)<i→fs[j]? = some g→¬(g.s=s∧g.key=key))∧Aside0 (Below w.heap.size w w'))
  case atStart=>exact⟨0,rfl,⟨by omega,by omega,by omega⟩,⟨fun j g h=>by omega⟩,⟨Below.refl _ _⟩⟩
  case round=>
    obtain⟨i,rfl,HI,HJ,HB⟩:=hrel
    have hi0:0≤i:=HI.out.1
    by_cases hlt:i<l
    · obtain⟨f,hf⟩ : ∃f,fs[i.toNat]? = some f:=⟨_,List.getElem?_eq_getElem (by have:=HL.out;omega)⟩
      obtain⟨g,rfl,hll,hd0,hd1,hd2⟩:=(HF.out.below HB.out).at hf
      obtain⟨fs1,fk,fm⟩:=f
      simp only at hd0 hd1 hd2
      have HFI:=Aside0.mk hf
      clear hf hll
      go_wp2_with fail
      refine (clos_take b1 b2 s key fs1 fk fm _ (pw_cell_below HB.out HC1.out) (pw_cell_below HB.out HC2.out)).mono ?_
      rintro e w1 ⟨rfl,hb⟩
      replace HB:=Aside0.mk (below_step HB.out hb)
      clear hb
      by_cases hn:fs1=s∧fk=key
      · have hbt:(fs1 == s && fk == key)=true:=by simpa using hn
        have HR:=Aside0.mk (show lkIdx s key fs 0=i by rw[lkIdx_hit s key fs 0 i.toNat _ (fun j g hj hg=>HJ.out j g (by omega) hg) HFI.out hn];omega)
        rw[hbt]
        clear hn hbt
        go_wp2_with fail
        go_ret
        exact⟨by simp[HR.out],HB.out⟩
      · have hbt:(fs1 == s && fk == key)=false:=by
          rw[Bool.eq_false_iff]
          intro e
          exact hn (by simpa using e)
        have HN:=Aside0.mk hn
        rw[hbt]
        clear hn hbt
        go_wp2_with fail
        go_roundg (gk - 1)
        case measure=>have:=HI.out;omega
        case rel=>
          refine⟨i+1,rfl,⟨by omega,by omega,by have:=HI.out;omega⟩,⟨fun j g hj hg => ?_⟩,HB⟩
          rcases (show (j:Int)<i∨j=i.toNat by omega) with h | h
          · exact HJ.out j g h hg
          · subst h
            rw[HFI.out] at hg
            injection hg with hg
            subst hg
            exact HN.out
    · have HR:=Aside0.mk (show lkIdx s key fs 0 = -1 by
        rw[lkIdx_none s key fs 0 fun f hf=>by
          obtain⟨j,hj,he⟩:=List.getElem_of_mem hf
          exact HJ.out j f (by have:=HI.out;have:=HL.out;omega) (by rw[List.getElem?_eq_getElem hj,he])])
      go_wp2_with fail
      go_ret
      exact⟨by simp[HR.out],HB.out⟩
theorem whoL_succ {ls:List Lk}{i:Nat}{h:Lk}(hi:ls[i]? = some h)(s key mode:Int):whoL (ls.take (i+1)) s key mode=whoL (ls.take i) s key mode++(if inWay s key mode h then [h.s] else []):=by
  obtain⟨h1,h2⟩:=List.getElem?_eq_some_iff.1 hi
  unfold whoL
  rw[List.take_succ_eq_append_getElem h1,List.filter_append,List.map_append,h2]
  by_cases e:inWay s key mode h=true
  · simp[e]
  · simp[e]
theorem whoL_len (ls:List Lk)(s key mode:Int):(whoL ls s key mode).length≤ls.length:=by
  unfold whoL
  rw[List.length_map]
  exact List.length_filter_le _ _
theorem inWay_eq (s key mode:Int)(h:Lk)(hm:mode=1∨mode=2):inWay s key mode h=(h.key == key && (h.s != s && (mode == 2 || h.mode == 2))):=by
  unfold inWay
  rcases hm with rfl | rfl<;>simp[Bool.and_assoc]
theorem who_calls (p o:Nat)(v:Value)(ls:List Lk)(s key mode:Int)(w:World)(hr:LR w v ls)(hc:w.cell? ⟨p,o,none⟩=some v)(hm:mode=1∨mode=2) :
    Calls Tryz.prog 123 #[.pointer (some ⟨p,o,none⟩),.int .i64 s,.int .i64 key,.int .i64 mode] w fun e w' => ∃v',e = .returned v'∧IS w' w.heap.size v' (sortI (whoL ls s key mode))∧Below w.heap.size w w':=by
  obtain⟨i0,hi,hzz⟩:=Option.map_eq_some_iff.1 info_int
  simp only[Prod.mk.injEq] at hzz
  obtain⟨hz0,hz1,hz2⟩:=hzz
  obtain⟨A,cap,rfl,_⟩:=ow_slice hr.1
  obtain⟨l,hl⟩ : ∃l,ls.length=l:=⟨_,rfl⟩
  have HL:=Aside0.mk hl
  have HF:=Aside0.mk hr
  have HM:=Aside0.mk hm
  have hl8:l≤100000:=by rw[←hl];exact hr.2
  rw[hl] at hc
  have HI0:=Aside0.mk (And.intro hi (And.intro hz0 (And.intro hz1 hz2)))
  clear hr hl hi hz0 hz1 hz2
  go_enter Tryz.func123,Tryz.ntmps123
  go_wp2_with fail
  go_loopg [9,17] (l+1) (fun kq v9 v17 w' => ∃(i:Int) (sl:Value),v9=sl∧v17 = .int .i64 i∧Aside0 (0≤i∧i≤l∧(kq:Int)=l+1 - i)∧Aside0 (IS w' w.heap.size sl (whoL (ls.take i.toNat) s key mode))∧Aside0 (Below w.heap.size w w'))
  case atStart=>exact⟨0,_,rfl,rfl,⟨by omega,by omega,by omega⟩,⟨IS.nil _ _⟩,⟨Below.refl _ _⟩⟩
  case round=>
    obtain⟨i,sl,rfl,rfl,HI,HS,HB⟩:=hrel
    have hi0:0≤i:=HI.out.1
    by_cases hlt:i<l
    · obtain⟨f,hf⟩ : ∃f,ls[i.toNat]? = some f:=⟨_,List.getElem?_eq_getElem (by have:=HL.out;omega)⟩
      obtain⟨g,rfl,hll,hd0,hd1,hd2⟩:=(HF.out.below HB.out).at hf
      have HW:=Aside0.mk (whoL_succ hf s key mode)
      have HIW:=Aside0.mk (inWay_eq s key mode f HM.out)
      obtain⟨fs1,fk,fm⟩:=f
      simp only at hd0 hd1 hd2 HW HIW
      have HFI:=Aside0.mk hf
      clear hf hll
      go_wp2_with fail
      refine (is_calls mode HM.out _).mono ?_
      rintro e w' ⟨rfl,rfl⟩
      by_cases h1:fk=key
      · have h1':key=fk:=h1.symm
        subst h1'
        have q1:(key == key)=true:=by simp
        by_cases h2:fs1=s
        · have q2:(fs1 != s)=false:=by simpa using h2
          have HIN:=Aside0.mk (show inWay s key mode ⟨fs1,key,fm⟩=false by rw[HIW.out,q1,q2];rfl)
          go_wp2_with fail
          go_roundg (gk - 1)
          case measure=>have:=HI.out;omega
          case rel=>exact⟨i+1,_,rfl,rfl,⟨by omega,by omega,by have:=HI.out;omega⟩,⟨by
            rw[show (i+1).toNat=i.toNat+1 from by omega,HW.out,HIN.out]
            simp only[Bool.false_eq_true,if_false,List.append_nil]
            exact ow_below HS.out (by repeat (first | exact Below.refl _ _ | apply below_drew1 | apply below_alloc))⟩,⟨by
            refine below_step HB.out ?_
            repeat (first | exact Below.refl _ _ | apply below_drew1 | apply below_alloc)⟩⟩
        · have q2:(fs1 != s)=true:=by simpa using h2
          by_cases h3:mode=2
          · subst h3
            have q3:((2:Int) == 2)=true:=by decide
            have HIN:=Aside0.mk (show inWay s key 2 ⟨fs1,key,fm⟩=true by rw[HIW.out,q1,q2,q3];rfl)
            obtain⟨hi,hz0,hz1,hz2⟩:=HI0.out
            obtain⟨n,hn⟩ : ∃n,(whoL (ls.take i.toNat) s key 2).length=n:=⟨_,rfl⟩
            have HLT:=Aside0.mk hn
            have hn5:n≤100000:=by rw[←hn];have:=whoL_len (ls.take i.toNat) s key 2;rw[List.length_take] at this;omega
            clear hn
            go_wp2_with (at_builtin;refine wpList_append_lies _ (by rfl) _ _ 22 (by rfl) w.heap.size 3 i0 (.int .i64 0) 1 8 Tryz.underlying22 hi hz0 hz1 hz2 rfl (by decide) _ n ((whoL (ls.take i.toNat) s key 2).map (.int .i64)) (by rfl) ?own ⟨wr.heap.size+1,0,none⟩ 1 1 [.int .i64 fs1] (by rfl) rfl ?news (one_int _) (by decide) (len_ok hn5) ?by8 ?base (wr.heap.size+2) ?hh ?_)
            case own=>have:=HS.out;unfold IS at this;rw[HLT.out] at this;exact ow_below this (by repeat (first | exact Below.refl _ _ | apply below_drew1 | apply below_alloc))
            case news=>
              intro j u hj
              match j,hj with
              | 0,hj=>simp at hj;subst hj;simp[Addr.add]
            case by8=>omega
            case base=>have:=HB.out.size;simp;omega
            case hh=>simp
            intro g2 cap2 w3 hown hgr hor hlt3
            have HO3:=Aside0.mk (show IS w3 w.heap.size (.slice (some ⟨g2,0,none⟩) (n+1) cap2) (whoL (ls.take (i.toNat+1)) s key 2) from by
              unfold IS
              rw[HW.out,HIN.out,if_pos rfl,List.length_append,HLT.out,List.map_append]
              exact hown)
            have HB3:=Aside0.mk (show Below w.heap.size w w3 from (HB.out.trans (Below.mono (show Below wr.heap.size wr ((wr.alloc (.cells #[.int .i64 fs1,.int .i64 key,.int .i64 fm] 265)).alloc (.cells #[.int .i64 fs1] 3)) by repeat (first | exact Below.refl _ _ | apply below_drew1 | apply below_alloc)) HB.out.size)).grown (w:=_) hgr (by have:=HB.out.size;simp;omega) (fun k hk=>by have h:=HS.out;exact (ow_block h hk).1))
            clear hown hgr hor hlt3 hi hz0 hz1 hz2
            go_wp2_with fail
            go_roundg (gk - 1)
            case measure=>have:=HI.out;omega
            case rel=>exact⟨i+1,_,rfl,rfl,⟨by omega,by omega,by have:=HI.out;omega⟩,⟨by rw[show (i+1).toNat=i.toNat+1 from by omega];exact HO3.out⟩,HB3⟩
          · have q3:(mode == 2)=false:=by simpa using h3
            by_cases h4:fm=2
            · subst h4
              have q4:((2:Int) == 2)=true:=by decide
              have HIN:=Aside0.mk (show inWay s key mode ⟨fs1,key,2⟩=true by rw[HIW.out,q1,q2,q3,q4];rfl)
              obtain⟨hi,hz0,hz1,hz2⟩:=HI0.out
              obtain⟨n,hn⟩ : ∃n,(whoL (ls.take i.toNat) s key mode).length=n:=⟨_,rfl⟩
              have HLT:=Aside0.mk hn
              have hn5:n≤100000:=by rw[←hn];have:=whoL_len (ls.take i.toNat) s key mode;rw[List.length_take] at this;omega
              clear hn
              go_wp2_with (at_builtin;refine wpList_append_lies _ (by rfl) _ _ 22 (by rfl) w.heap.size 3 i0 (.int .i64 0) 1 8 Tryz.underlying22 hi hz0 hz1 hz2 rfl (by decide) _ n ((whoL (ls.take i.toNat) s key mode).map (.int .i64)) (by rfl) ?own ⟨wr.heap.size+1,0,none⟩ 1 1 [.int .i64 fs1] (by rfl) rfl ?news (one_int _) (by decide) (len_ok hn5) ?by8 ?base (wr.heap.size+2) ?hh ?_)
              case own=>have:=HS.out;unfold IS at this;rw[HLT.out] at this;exact ow_below this (by repeat (first | exact Below.refl _ _ | apply below_drew1 | apply below_alloc))
              case news=>
                intro j u hj
                match j,hj with
                | 0,hj=>simp at hj;subst hj;simp[Addr.add]
              case by8=>omega
              case base=>have:=HB.out.size;simp;omega
              case hh=>simp
              intro g2 cap2 w3 hown hgr hor hlt3
              have HO3:=Aside0.mk (show IS w3 w.heap.size (.slice (some ⟨g2,0,none⟩) (n+1) cap2) (whoL (ls.take (i.toNat+1)) s key mode) from by
                unfold IS
                rw[HW.out,HIN.out,if_pos rfl,List.length_append,HLT.out,List.map_append]
                exact hown)
              have HB3:=Aside0.mk (show Below w.heap.size w w3 from (HB.out.trans (Below.mono (show Below wr.heap.size wr ((wr.alloc (.cells #[.int .i64 fs1,.int .i64 key,.int .i64 2] 265)).alloc (.cells #[.int .i64 fs1] 3)) by repeat (first | exact Below.refl _ _ | apply below_drew1 | apply below_alloc)) HB.out.size)).grown (w:=_) hgr (by have:=HB.out.size;simp;omega) (fun k hk=>by have h:=HS.out;exact (ow_block h hk).1))
              clear hown hgr hor hlt3 hi hz0 hz1 hz2
              go_wp2_with fail
              go_roundg (gk - 1)
              case measure=>have:=HI.out;omega
              case rel=>exact⟨i+1,_,rfl,rfl,⟨by omega,by omega,by have:=HI.out;omega⟩,⟨by rw[show (i+1).toNat=i.toNat+1 from by omega];exact HO3.out⟩,HB3⟩
            · have q4:(fm == 2)=false:=by simpa using h4
              have HIN:=Aside0.mk (show inWay s key mode ⟨fs1,key,fm⟩=false by rw[HIW.out,q1,q2,q3,q4];rfl)
              go_wp2_with fail
              go_roundg (gk - 1)
              case measure=>have:=HI.out;omega
              case rel=>exact⟨i+1,_,rfl,rfl,⟨by omega,by omega,by have:=HI.out;omega⟩,⟨by
                rw[show (i+1).toNat=i.toNat+1 from by omega,HW.out,HIN.out]
                simp only[Bool.false_eq_true,if_false,List.append_nil]
                exact ow_below HS.out (by repeat (first | exact Below.refl _ _ | apply below_drew1 | apply below_alloc))⟩,⟨by
                refine below_step HB.out ?_
                repeat (first | exact Below.refl _ _ | apply below_drew1 | apply below_alloc)⟩⟩
      · have q1:(fk == key)=false:=by simpa using h1
        have HIN:=Aside0.mk (show inWay s key mode ⟨fs1,fk,fm⟩=false by rw[HIW.out,q1];rfl)
        go_wp2_with fail
        go_roundg (gk - 1)
        case measure=>have:=HI.out;omega
        case rel=>exact⟨i+1,_,rfl,rfl,⟨by omega,by omega,by have:=HI.out;omega⟩,⟨by
          rw[show (i+1).toNat=i.toNat+1 from by omega,HW.out,HIN.out]
          simp only[Bool.false_eq_true,if_false,List.append_nil]
          exact ow_below HS.out (by repeat (first | exact Below.refl _ _ | apply below_drew1 | apply below_alloc))⟩,⟨by
          refine below_step HB.out ?_
          repeat (first | exact Below.refl _ _ | apply below_drew1 | apply below_alloc)⟩⟩
    · have HE:=Aside0.mk (show ls.take i.toNat=ls by rw[show i.toNat=ls.length from by have:=HI.out;have:=HL.out;omega];exact List.take_length)
      have HS2:=Aside0.mk (show IS wr w.heap.size u9 (whoL ls s key mode) from by have h:=HS.out;rw[HE.out] at h;exact h)
      obtain⟨A9,c9,hv9,_⟩:=ow_slice HS2.out
      rw[hv9] at HS2
      obtain⟨q,hq⟩ : ∃q,whoL ls s key mode=q:=⟨_,rfl⟩
      have HQ:=Aside0.mk hq
      rw[hq] at HS2 hv9
      obtain⟨n,hn⟩ : ∃n,q.length=n:=⟨_,rfl⟩
      have hn5:n≤100000:=by rw[←hn,←hq];have:=whoL_len ls s key mode;have:=HL.out;omega
      have HSL:=Aside0.mk (sortI_len q)
      rw[hn] at HS2 hv9 HSL
      have HN:=Aside0.mk hn
      clear hq hn
      subst hv9
      go_wp2_with fail
      refine (sort_is w.heap.size (.slice A9 n c9) q _ HS2.out (by have:=HN.out;omega)).mono ?_
      rintro e w2 ⟨rfl,h2,hg2⟩
      have HB2:=Aside0.mk (show Below w.heap.size w w2 from HB.out.grown hg2 HB.out.size (fun k hk=>(ow_block HS2.out hk).1))
      have HI2:=Aside0.mk h2
      clear h2 hg2
      go_wp2_with fail
      go_ret
      exact⟨_,rfl,by rw[HQ.out];exact HI2.out,HB2.out⟩
end Go.Proofs.YtaplpeoikebedaaGreatDoor.LockT
namespace Go.Proofs.YtaplpeoikebedaaGreatDoor.LockU
open Go.RowKit YtaplpeoikebedaaGreatDoorW.PrintWords YtaplpeoikebedaaGreatDoorW.PrintLast YtaplpeoikebedaaGreatDoorW.PrintMore
open See Mem Clone Go.Proofs.YtaplpeoikebedaaGreatDoor.Cell Page PageR Disk DiskN Pool1 Pool2 Rw Del Num SortI StoreD TransT LockT
attribute [local go_sem] max2_imax min2_imin max_two min_two
structure LkM (M:Nat→Prop) (w:World) (p o e:Nat) (cs:Array Value) (v:Value) (ls:List Lk):Prop where
  box:w.heap[p]? = some (.cells cs e (0,0))
  at0:cs[o]? = some v
  row:LR w v ls
  low : ∀k,v.ownBlock=some k→M k
  mp:M p
  ne:e≠265
theorem LkM.cell {M:Nat→Prop}{w:World}{p o e:Nat}{cs:Array Value}{v:Value}{ls:List Lk}(h:LkM M w p o e cs v ls):w.cell? ⟨p,o,none⟩=some v:=by
  simp only[World.cell?,h.box];simpa using h.at0
theorem LkM.frozen {M:Nat→Prop}{w:World}{p o e:Nat}{cs:Array Value}{v:Value}{ls:List Lk}(h:LkM M w p o e cs v ls)(i:Nat):w.frozen? ⟨p,i,none⟩=false:=by simp[World.frozen?,h.box]
theorem LkM.own_ne {M:Nat→Prop}{w:World}{p o e:Nat}{cs:Array Value}{v:Value}{ls:List Lk}(h:LkM M w p o e cs v ls):v.ownBlock≠some p:=fun he=>by
  obtain⟨_,c,hc⟩:=ow_block h.row.1 he
  rw[h.box] at hc
  injection hc with hc;injection hc with _ hc
  exact h.ne hc
theorem LkM.below {M:Nat→Prop}{w w':World}{p o e:Nat}{cs:Array Value}{v:Value}{ls:List Lk}(h:LkM M w p o e cs v ls)(hb:Below w.heap.size w w'):LkM M w' p o e cs v ls:=
  ⟨(hb.block p (heap_lt h.box)).trans h.box,h.at0,h.row.below hb,h.low,h.mp,h.ne⟩
theorem LkM.mono {M M':Nat→Prop}{w:World}{p o e:Nat}{cs:Array Value}{v:Value}{ls:List Lk}(h:LkM M w p o e cs v ls)(hm : ∀k,M k→M' k):LkM M' w p o e cs v ls:=
  ⟨h.box,h.at0,h.row,fun k hk=>hm k (h.low k hk),hm p h.mp,h.ne⟩
def LkPost (M:Nat→Prop)(p o e:Nat)(cs:Array Value)(ls':List Lk)(w w':World):Prop:=
  ∃v',LkM (Gr M w w') w' p o e (cs.setIfInBounds o v') v' ls'∧Frm [e,265] M w w'
theorem LkPost.back {M:Nat→Prop}{p o e:Nat}{cs:Array Value}{ls:List Lk}{w w1 w2:World}(h:LkPost M p o e cs ls w1 w2)(hb:Below w.heap.size w w1):LkPost M p o e cs ls w w2:=by
  obtain⟨v',h1,h2⟩:=h
  refine⟨v',h1.mono fun k hk => ?_,(Frm.of_below hb).trans h2⟩
  rcases hk with hk | ⟨a,b⟩
  · exact .inl hk
  · exact .inr ⟨Nat.le_trans hb.size a,b⟩
theorem LkPost.drew {M:Nat→Prop}{p o e:Nat}{cs:Array Value}{ls:List Lk}{w w1:World}(h:LkPost M p o e cs ls w w1):LkPost M p o e cs ls w w1.drew:=by
  obtain⟨v',⟨a,b,c,d,e1,f⟩,h2⟩:=h
  exact⟨v',⟨a,b,c,d,e1,f⟩,h2.drew⟩
theorem lk_row {M:Nat→Prop}{w w1:World}{p o e:Nat}{cs:Array Value}{v:Value}{ls ls':List Lk}(h:LkM M w p o e cs v ls)(ho:w1.ownsRow 0 265 3 v ls'.length (lkCells ls'))(hl:ls'.length≤100000)(hg:w.grownBy w1 v.ownBlock):LkPost M p o e cs ls' w w1:=by
  have h0:=(Array.getElem?_eq_some_iff.1 h.at0).1
  refine⟨v,⟨?_,by simp[h0],⟨ho,hl⟩,fun k hk=>.inl (h.low k hk),.inl h.mp,h.ne⟩,(Frm.refl _ _ w).grown hg (fun k hk hlt=>⟨h.low k hk,by obtain⟨_,c,hc⟩:=ow_block h.row.1 hk;rw[tag_of hc];exact List.mem_cons_of_mem _ List.mem_cons_self⟩)⟩
  rw[set_same h.at0]
  exact (hg.block p (heap_lt h.box) (fun e=>h.own_ne e.symm)).trans h.box
theorem lk_put {M:Nat→Prop}{w w1:World}{p o e:Nat}{cs:Array Value}{v v':Value}{ls ls':List Lk}(h:LkM M w p o e cs v ls)(ho:w1.ownsRow 0 265 3 v' ls'.length (lkCells ls'))(hl:ls'.length≤100000)(hg:w.grownBy w1 v.ownBlock)
    (hat:v'.ownBlock=v.ownBlock∨∀k,v'.ownBlock=some k→w.heap.size≤k):LkPost M p o e cs ls' w (w1.setCell ⟨p,o,none⟩ v'):=by
  have hpl:=heap_lt h.box
  have h0:=(Array.getElem?_eq_some_iff.1 h.at0).1
  have hb1:w1.heap[p]? = some (.cells cs e (0,0)):=(hg.block p hpl (fun e=>h.own_ne e.symm)).trans h.box
  have hne:v'.ownBlock≠some p:=fun e=>by
    obtain⟨_,c,hc⟩:=ow_block ho e
    rw[hb1] at hc
    injection hc with hc;injection hc with _ hc
    exact h.ne hc
  have hF1:Frm [e,265] M w w1:=(Frm.refl _ M w).grown hg (fun k hk hlt=>⟨h.low k hk,by obtain⟨_,c,hc⟩:=ow_block h.row.1 hk;rw[tag_of hc];exact List.mem_cons_of_mem _ List.mem_cons_self⟩)
  refine⟨v',⟨heap_setCell_same _ _ _ _ _ _ hb1,by simp[h0],⟨ow_move ho fun k hk=>Below.heap_setCell _ _ _ _ (fun e=>hne (by rw[hk];exact congrArg some e)),hl⟩,fun k hk => ?_,.inl h.mp,h.ne⟩,hF1.set (fun _=>⟨h.mp,by rw[tag_of h.box];exact List.mem_cons_self⟩) _⟩
  rcases hat with hat | hat
  · exact .inl (h.low k (hat ▸ hk))
  · obtain⟨_,c,hc⟩:=ow_block ho hk
    exact .inr ⟨hat k hk,by simpa [World.setCell] using heap_lt hc⟩
theorem lkinfo:(Tryz.prog.info? 265).map (fun i=>(i.zero,i.size,i.bytes))=some (some (.agg #[.int .i64 0,.int .i64 0,.int .i64 0]),3,24):=by kernel_rfl
theorem news_lk (W:World)(b:Nat)(hb:W.heap.size=b)(x y z:Int)(e:Nat) : ∀j u,[Value.int .i64 x,.int .i64 y,.int .i64 z][j]? = some u→(W.alloc (.cells #[.int .i64 x,.int .i64 y,.int .i64 z] e)).cell? ((⟨b,0,none⟩:Addr).add j)=some u:=by
  subst hb
  intro j u hj
  match j,hj with
  | 0,hj=>simp at hj;subst hj;simp[Addr.add]
  | 1,hj=>simp at hj;subst hj;simp[Addr.add]
  | 2,hj=>simp at hj;subst hj;simp[Addr.add]
theorem one_lk (x y z:Int) : ∀u∈[Value.int .i64 x,.int .i64 y,.int .i64 z],u.oneCell'=true:=by
  intro u hu
  simp at hu
  rcases hu with rfl | rfl | rfl<;>rfl
theorem lkIdx_or (s key:Int) : ∀(fs:List Lk) (k:Int),lkIdx s key fs k = -1∨∃(i:Nat) (f:Lk),fs[i]? = some f∧lkIdx s key fs k=k+i
  | [],k=>.inl rfl
  | g :: fs,k=>by
    unfold lkIdx
    split
    · exact .inr ⟨0,g,rfl,by omega⟩
    · rcases lkIdx_or s key fs (k+1) with h | ⟨i,f,h1,h2⟩
      · exact .inl h
      · exact .inr ⟨i+1,f,by simpa using h1,by rw[h2];omega⟩
theorem lkCells_modify (ls:List Lk)(k:Nat)(t:Lk)(hk:ls[k]? = some t)(m:Int):lkCells (ls.modify k fun h=>⟨h.s,h.key,max h.mode m⟩)=setL (lkCells ls) (k*3+2) [.int .i64 (imax t.mode m)]:=by
  induction ls generalizing k with
  | nil=>simp at hk
  | cons x ls ih=>
    cases k with
    | zero=>
      simp at hk
      subst hk
      simp[lkCells,setL,List.modify_zero_cons,imax_eq]
    | succ k=>
      have:=ih k (by simpa using hk)
      rw[List.modify_succ_cons]
      unfold lkCells at this ⊢
      simp only[List.flatMap_cons]
      rw[this,show (k+1)*3+2=k*3+2+1+1+1 from by omega]
      simp[setL]
theorem len24b {n:Nat}(h:n≤100000):(n+1)*24≤140737488355328:=by omega
theorem take_calls (M:Nat→Prop)(p o e:Nat)(cs:Array Value)(v:Value)(ls:List Lk)(s key mode:Int)(w:World)(h:LkM M w p o e cs v ls)(hm:mode=1∨mode=2)(hw:whoL ls s key mode=[])(hl:ls.length≤90000) :
    Calls Tryz.prog 121 #[.pointer (some ⟨p,o,none⟩),.int .i64 s,.int .i64 key,.int .i64 mode] w fun e' w'=>e' = .returned (.bool true)∧LkPost M p o e cs (takeL ls s key mode) w w':=by
  obtain⟨i0,hi,hzz⟩:=Option.map_eq_some_iff.1 lkinfo
  simp only[Prod.mk.injEq] at hzz
  obtain⟨hz0,hz1,hz2⟩:=hzz
  have HT:=Aside0.mk h
  have hpl:=heap_lt h.box
  have HWHO:=Aside0.mk (fun (W:World) (hb:Below w.heap.size w W)=>by
    have h2:=who_calls p o v ls s key mode W (h.row.below hb) (pw_cell_below hb h.cell) hm
    rw[hw,show sortI []=[] from by simp[sortI]] at h2
    exact h2)
  have HM:=Aside0.mk hm
  have HI0:=Aside0.mk (And.intro hi (And.intro hz0 (And.intro hz1 hz2)))
  clear h hw hi hz0 hz1 hz2 hm
  go_enter Tryz.func121,Tryz.ntmps121
  go_wp2_with fail
  refine (is_calls mode HM.out _).mono ?_
  rintro e1 w' ⟨rfl,rfl⟩
  go_wp2_with fail
  refine (HWHO.out _ (by repeat (first | exact Below.refl _ _ | apply below_drew1 | apply below_alloc))).mono ?_
  rintro e1 w1 ⟨v1,rfl,hs1,hb1⟩
  obtain⟨A1,c1,rfl,_⟩:=ow_slice hs1
  have HB1:=Aside0.mk (below_step (show Below w.heap.size w ((w.alloc (.cells #[.int .i64 s] 3)).alloc (.cells #[.int .i64 key] 3)) by repeat (first | exact Below.refl _ _ | apply below_drew1 | apply below_alloc)) hb1)
  have hs0:w1.cell? ⟨w.heap.size,0,none⟩=some (.int .i64 s):=pw_cell_below hb1 (by simp)
  have hk0:w1.cell? ⟨w.heap.size+1,0,none⟩=some (.int .i64 key):=pw_cell_below hb1 (by simp)
  have HT1:=Aside0.mk (HT.out.below HB1.out)
  have hc0:=HT1.out.cell
  clear hs1 hb1
  simp only[List.length_nil]
  obtain⟨A,cap,hv,_⟩:=ow_slice HT1.out.row.1
  subst hv
  go_wp2_with fail
  refine (index_take (.slice A ls.length cap) ls w.heap.size (w.heap.size+1) s key _ HT1.out.row hs0 hk0).mono ?_
  rintro e2 w2 ⟨rfl,hb2⟩
  have HB2:=Aside0.mk (below_step HB1.out hb2)
  have hs2:w2.cell? ⟨w.heap.size,0,none⟩=some (.int .i64 s):=pw_cell_below hb2 hs0
  have hk2:w2.cell? ⟨w.heap.size+1,0,none⟩=some (.int .i64 key):=pw_cell_below hb2 hk0
  have HT2:=Aside0.mk (HT.out.below HB2.out)
  have hc2:=HT2.out.cell
  clear hb2 hs0 hk0 hc0 HT1
  rcases lkIdx_or s key ls 0 with hx | ⟨i,f,hf,hx⟩
  · have HTK:=Aside0.mk (show takeL ls s key mode=ls++[⟨s,key,mode⟩] by unfold takeL;rw[hx];rfl)
    rw[hx]
    clear hx
    obtain⟨hi,hz0,hz1,hz2⟩:=HI0.out
    have hn5:ls.length≤100000:=by omega
    have hp2:=heap_lt HT2.out.box
    have hf2:=HT2.out.frozen o
    go_wp2_with fail
    go_region_law (refine step_append_lies _ (by rfl) _ _ 107 (by rfl) 0 265 i0 (.agg #[.int .i64 0,.int .i64 0,.int .i64 0]) 3 24 Tryz.underlying107 hi hz0 hz1 hz2 rfl (by decide) _ ls.length (lkCells ls) (by rfl) (by exact ow_below HT2.out.row.1 (by repeat (first | exact Below.refl _ _ | apply below_drew1 | apply below_alloc))) ⟨w2.heap.size,0,none⟩ 1 1 [.int .i64 s,.int .i64 key,.int .i64 mode] (by rfl) rfl (by exact news_lk w2 _ rfl _ _ _ _) (by exact one_lk _ _ _) (by decide) (by exact len_ok hn5) (by exact len24b hn5) (by exact Nat.zero_le _) (w2.heap.size+1) (by simp) ?_;intro g2 cap2 w3 hown hgr hor hlt3;have hb3:w3.heap[p]? = some (.cells cs e (0,0)):=(grown_blk hgr (by exact (show Below w2.heap.size w2 _ by repeat (first | exact Below.refl _ _ | apply below_drew1 | apply below_alloc)).block _ hp2) (by show p<(w2.heap.push _).size;rw[Array.size_push];omega) (fun k hk e=>HT2.out.own_ne (by subst e;exact hk))).trans HT2.out.box;have hz3:w3.frozen? ⟨p,o,none⟩=false:=(by simp[World.frozen?,hb3]);have hc3:w3.cell? ⟨p,o,none⟩=some (.slice A ls.length cap):=(by simp only[World.cell?,hb3];simpa using HT2.out.at0))
    all_goals
      have hgr2:w2.grownBy w3 (Value.slice A ls.length cap).ownBlock:=⟨hgr.os,hgr.tape,hgr.output,Nat.le_trans (by show w2.heap.size≤(w2.heap.push _).size;rw[Array.size_push];omega) hgr.size,fun j hj hne=>(hgr.block j (by show j<(w2.heap.push _).size;rw[Array.size_push];omega) hne).trans (Below.heap_alloc _ _ _ hj)⟩
      have hP:=lk_put HT2.out (w1:=w3) (v':=.slice (some ⟨g2,0,none⟩) (ls.length+1) cap2) (ls':=ls++[⟨s,key,mode⟩]) (by rw[List.length_append,lkCells_append];exact hown) (by rw[List.length_append];simp;omega) hgr2 (by
        rcases hor with h | h
        · exact .inl h.symm
        · exact .inr fun j hj=>by
            have e:g2=j:=by simpa [Value.ownBlock] using hj
            omega)
      have HP:=Aside0.mk (hP.back HB2.out)
      clear hown hgr hor hlt3 hb3 hz3 hc3 hgr2 hP hi hz0 hz1 hz2
      go_wp2_with fail
      go_ret
      exact⟨by simp,by rw[HTK.out];first | exact HP.out | exact HP.out.drew⟩
  · have hil:=(List.getElem?_eq_some_iff.1 hf).1
    have HTK:=Aside0.mk (show takeL ls s key mode=ls.modify i fun h=>⟨h.s,h.key,max h.mode mode⟩ by
      unfold takeL
      rw[hx,if_neg (by omega),show ((0:Int)+(i:Int)).toNat=i from by omega])
    have hx':lkIdx s key ls 0=(i:Int):=by rw[hx];omega
    rw[hx']
    clear hx hx'
    obtain⟨g,hA,hll,d0,d1,d2⟩:=HT2.out.row.at hf
    subst hA
    obtain⟨fs,fk,fm⟩:=f
    simp only at d0 d1 d2
    have HFI:=Aside0.mk hf
    obtain⟨_,cur,hcur⟩:=ow_block HT2.out.row.1 (show (Value.slice (some ⟨g,0,none⟩) ls.length cap).ownBlock=some g from rfl)
    have f2:w2.frozen? ⟨g,i*3+2,none⟩=false:=by simp[World.frozen?,hcur]
    have hi0:(0:Int)≤(i:Int):=by omega
    have hil2:(i:Int)<(ls.length:Int):=by omega
    have hin : ¬(i:Int)<0:=by omega
    obtain⟨ho,hgr⟩:=own_setCells [.int .i64 (imax fm mode)] (i*3+2) w2 _ HT2.out.row.1
    have hP:=lk_row (w1:=w2.setCells g (i*3+2) [.int .i64 (imax fm mode)]) (ls':=ls.modify i fun h=>⟨h.s,h.key,max h.mode mode⟩) HT2.out (by
      rw[List.length_modify,lkCells_modify ls i _ HFI.out mode]
      exact ho) (by rw[List.length_modify];omega) hgr
    have HP:=Aside0.mk (show LkPost M p o e cs (ls.modify i fun h=>⟨h.s,h.key,max h.mode mode⟩) w (w2.setCell ⟨g,i*3+2,none⟩ (.int .i64 (imax fm mode))) from hP.back HB2.out)
    clear ho hgr hP hf hcur
    go_wp2_with fail
    go_region
    all_goals
      go_wp2_with fail
      go_ret
      exact⟨by simp,by rw[HTK.out];first | exact HP.out | exact HP.out.drew⟩
end Go.Proofs.YtaplpeoikebedaaGreatDoor.LockU
namespace Go.Proofs.YtaplpeoikebedaaGreatDoor.SpaceT
open Go.RowKit YtaplpeoikebedaaGreatDoorW.PrintWords YtaplpeoikebedaaGreatDoorW.PrintLast YtaplpeoikebedaaGreatDoorW.PrintMore
open See Mem Page
attribute [local go_sem] max2_imax min2_imin max_two min_two
def SpM (w:World)(q:Nat)(fr kp:Int):Prop:=w.heap[q]? = some (.cells #[.int .i64 fr,.int .i64 kp] 193 (0,0))
theorem SpM.cells {w:World}{q:Nat}{fr kp:Int}(h:SpM w q fr kp):w.cell? ⟨q,0,none⟩=some (.int .i64 fr)∧w.cell? ⟨q,1,none⟩=some (.int .i64 kp)∧w.frozen? ⟨q,0,none⟩=false∧w.frozen? ⟨q,1,none⟩=false:=by
  unfold SpM at h
  refine⟨?_,?_,?_,?_⟩<;>simp[World.cell?,World.frozen?,h]
theorem SpM.below {w w':World}{q:Nat}{fr kp:Int}(h:SpM w q fr kp)(hb:Below w.heap.size w w'):SpM w' q fr kp:=(hb.block q (heap_lt h)).trans h
theorem SpM.frm {T:List Nat}{M:Nat→Prop}{w w':World}{q:Nat}{fr kp:Int}(h:SpM w q fr kp)(hf:Frm T M w w')(hT:193∉T):SpM w' q fr kp:=hf.at h (.inl hT)
theorem SpM.set {w:World}{q:Nat}{fr kp:Int}(h:SpM w q fr kp)(x:Int):SpM (w.setCell ⟨q,0,none⟩ (.int .i64 x)) q x kp:=heap_setCell_same _ _ _ _ _ _ h
theorem SpM.set1 {w:World}{q:Nat}{fr kp:Int}(h:SpM w q fr kp)(x:Int):SpM (w.setCell ⟨q,1,none⟩ (.int .i64 x)) q fr x:=heap_setCell_same _ _ _ _ _ _ h
theorem SpM.frm0 {w:World}{q:Nat}{fr kp:Int}{M:Nat→Prop}(h:SpM w q fr kp)(hq:M q)(i:Nat)(v:Value):Frm [193] M w (w.setCell ⟨q,i,none⟩ v):=
  (Frm.refl _ _ w).set (fun _=>⟨hq,by rw[tag_of h];exact List.mem_cons_self⟩) v
theorem free_space (q:Nat)(fr kp:Int)(w:World)(h:SpM w q fr kp):Calls Tryz.prog 59 #[.pointer (some ⟨q,0,none⟩)] w fun e w'=>e = .returned (.int .i64 fr)∧w=w':=by
  obtain⟨c0,c1,f0,f1⟩:=h.cells
  go_enter Tryz.func59,Tryz.ntmps59
  go_wp2
  go_ret
  simp
theorem kept_space (q:Nat)(fr kp:Int)(w:World)(h:SpM w q fr kp):Calls Tryz.prog 60 #[.pointer (some ⟨q,0,none⟩)] w fun e w'=>e = .returned (.int .i64 kp)∧w=w':=by
  obtain⟨c0,c1,f0,f1⟩:=h.cells
  go_enter Tryz.func60,Tryz.ntmps60
  go_wp2
  go_ret
  simp
theorem count_space (n:Int)(h0:0≤n)(h1:n≤1073741824)(w:World):Calls Tryz.prog 118 #[.int .i64 n] w fun e w'=>e = .returned (.bool true)∧w=w':=by
  go_enter Tryz.func118,Tryz.ntmps118
  go_wp2
  go_ret
  simp
theorem spend_space (M:Nat→Prop)(q:Nat)(fr kp n:Int)(w:World)(h:SpM w q fr kp)(hq:M q)(h0:0≤n)(h1:n≤kp)(h2:kp≤1073741824) :
    Calls Tryz.prog 132 #[.pointer (some ⟨q,0,none⟩),.int .i64 n] w fun e w'=>e = .returned (.bool true)∧SpM w' q fr (kp - n)∧Frm [193] M w w':=by
  have H:=Aside0.mk h
  obtain⟨c0,c1,f0,f1⟩:=h.cells
  clear h
  go_enter Tryz.func132,Tryz.ntmps132
  go_wp2_with fail
  refine (count_space n h0 (by omega) _).mono ?_
  rintro e w' ⟨rfl,rfl⟩
  have hd:decide (kp<n)=false:=decide_eq_false (by omega)
  go_wp2_with fail
  go_ret
  exact⟨by simp,H.out.set1 _,H.out.frm0 hq _ _⟩
theorem ask_space (M:Nat→Prop)(q:Nat)(fr kp u k:Int)(w:World)(h:SpM w q fr kp)(hq:M q)(h0:0≤u)(h1:0≤k)(h2:u+k≤fr)(h3:fr≤1073741824)(h4:0≤kp)(h5:kp≤1073741824) :
    Calls Tryz.prog 65 #[.pointer (some ⟨q,0,none⟩),.int .i64 u,.int .i64 k] w fun e w'=>e = .returned .nilIface∧SpM w' q (fr - (u+k)) (kp+k)∧Frm [193] M w w':=by
  have H:=Aside0.mk h
  obtain⟨c0,c1,f0,f1⟩:=h.cells
  clear h
  go_enter Tryz.func65,Tryz.ntmps65
  go_wp2_with fail
  refine (count_space u h0 (by omega) _).mono ?_
  rintro e w' ⟨rfl,rfl⟩
  go_wp2_with fail
  refine (count_space k h1 (by omega) _).mono ?_
  rintro e w' ⟨rfl,rfl⟩
  have hd:decide (fr<u+k)=false:=decide_eq_false (by omega)
  go_wp2_with fail
  go_ret
  exact⟨by simp,(H.out.set _).set1 _,(H.out.frm0 hq _ _).trans ((H.out.set _).frm0 hq _ _)⟩
theorem ask_full (K:List Nat)(hK:8∈K)(a:Nat→Addr)(q:Nat)(fr kp u k:Int)(w:World)(hs:SentsK K w a)(h:SpM w q fr kp)(h0:0≤u)(h1:0≤k)(hu:u≤1073741824)(hk:k≤1073741824)(h2:fr<u+k)(h3:0≤fr) :
    Calls Tryz.prog 65 #[.pointer (some ⟨q,0,none⟩),.int .i64 u,.int .i64 k] w fun e w'=>e = .returned (errv a (some 8))∧w=w':=by
  obtain⟨c0,c1,f0,f1⟩:=h.cells
  have hg:w.cell? ⟨2,0,none⟩=some (.iface 333 (.pointer (some (a 8)))):=hs.cell 8 hK
  clear h hs
  go_enter Tryz.func65,Tryz.ntmps65
  go_wp2_with fail
  refine (count_space u h0 hu _).mono ?_
  rintro e w' ⟨rfl,rfl⟩
  go_wp2_with fail
  refine (count_space k h1 hk _).mono ?_
  rintro e w' ⟨rfl,rfl⟩
  have hd:decide (fr<u+k)=true:=decide_eq_true h2
  go_wp2_with fail
  go_ret
  exact⟨by simp[errv],rfl⟩
theorem new_space (n:Int)(h0:0≤n)(h1:n≤1073741824)(w:World) :
    Calls Tryz.prog 110 #[.int .i64 n] w fun e w'=>e = .returned (.pointer (some ⟨w.heap.size,0,none⟩))∧w'=w.alloc (.cells #[.int .i64 n,.int .i64 0] 193):=by
  have hm:imin (imax n 0) 1073741824=n:=by unfold imin imax;split<;>split<;>omega
  go_enter Tryz.func110,Tryz.ntmps110
  go_wp2
  go_ret
  simp[hm]
end Go.Proofs.YtaplpeoikebedaaGreatDoor.SpaceT
