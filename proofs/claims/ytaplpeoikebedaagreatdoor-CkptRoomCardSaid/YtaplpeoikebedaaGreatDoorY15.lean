/- Joined texts: Dirty2, SysM. No condition but what each says. -/
import Derived.Test.YtaplpeoikebedaaGreatDoorY7
import Derived.Test.YtaplpeoikebedaaGreatDoorY14
import Derived.Test.YtaplpeoikebedaaGreatDoorY13
set_option maxHeartbeats 8000000
set_option maxRecDepth 100000
set_option linter.unusedVariables false
set_option linter.unusedSimpArgs false
namespace Go.Proofs.YtaplpeoikebedaaGreatDoor.Dirty2
open Go.RowKit YtaplpeoikebedaaGreatDoorW.PrintWords YtaplpeoikebedaaGreatDoorW.PrintLast YtaplpeoikebedaaGreatDoorW.PrintMore
open See Mem Clone Go.Proofs.YtaplpeoikebedaaGreatDoor.Cell Page Dirty SysD Del Ins DiskW
attribute [local go_sem] max2_imax min2_imin max_two min_two
theorem pos_has {ds:List (Int×Int)}{n:Int}(h:has ds n=true) : ∃f,ds[pos ds n]? = some (n,f):=by
  unfold has at h
  cases hq:ds[pos ds n]? with
  | none=>rw[hq] at h;cases h
  | some d=>
    rw[hq] at h
    obtain⟨x,y⟩:=d
    have:x=n:=by simpa using h
    subst this
    exact⟨y,rfl⟩
theorem pos_lt : ∀(ds:List (Int×Int)) (n:Int) (k:Nat) (d:Int×Int),k<pos ds n→ds[k]? = some d→d.1<n
  | [],n,k,d,h,hd=>by simp at hd
  | e :: ds,n,0,d,h,hd=>by
    unfold pos at h
    simp at hd;subst hd
    by_cases hc:e.1<n
    · exact hc
    · rw[if_neg hc] at h;omega
  | e :: ds,n,k+1,d,h,hd=>by
    unfold pos at h
    by_cases hc:e.1<n
    · rw[if_pos hc] at h
      exact pos_lt ds n k d (by omega) (by simpa using hd)
    · rw[if_neg hc] at h;omega
theorem pos_ge : ∀(ds:List (Int×Int)) (n:Int),Rising ds→∀(k:Nat) (d:Int×Int),pos ds n≤k→ds[k]? = some d→¬d.1<n
  | [],n,_,k,d,h,hd=>by simp at hd
  | e :: ds,n,hr,0,d,h,hd=>by
    unfold pos at h
    simp at hd;subst hd
    by_cases hc:e.1<n
    · rw[if_pos hc] at h;omega
    · exact hc
  | e :: ds,n,hr,k+1,d,h,hd=>by
    unfold pos at h
    have hr2:=List.pairwise_cons.1 hr
    by_cases hc:e.1<n
    · rw[if_pos hc] at h
      exact pos_ge ds n hr2.2 k d (by omega) (by simpa using hd)
    · have hm:d∈ds:=List.mem_of_getElem? (by simpa using hd)
      have:=hr2.1 d hm
      omega
theorem addT_rising {ds:List (Int×Int)}(h:Rising ds)(n f:Int):Rising (addT ds n f):=by
  unfold addT
  cases hh:has ds n with
  | true=>simpa using h
  | false=>
    simp only[Bool.false_eq_true,if_false]
    have hp:=pos_le ds n
    unfold Rising
    rw[List.pairwise_append]
    have hsub:ds.take (pos ds n)++ds.drop (pos ds n)=ds:=List.take_append_drop _ _
    have h2:(ds.take (pos ds n)++ds.drop (pos ds n)).Pairwise fun a b=>a.1<b.1:=by rw[hsub];exact h
    obtain⟨h3,h4,h5⟩:=List.pairwise_append.1 h2
    have lo : ∀a∈ds.take (pos ds n),a.1<n:=fun a ha=>by
      obtain⟨k,hk,hka⟩:=List.getElem_of_mem ha
      have hk2:k<pos ds n:=by rw[List.length_take] at hk;omega
      refine pos_lt ds n k a hk2 ?_
      rw[List.getElem_take] at hka
      rw[List.getElem?_eq_getElem (by omega),hka]
    have hi : ∀b∈ds.drop (pos ds n),n<b.1:=fun b hb=>by
      obtain⟨k,hk,hkb⟩:=List.getElem_of_mem hb
      rw[List.getElem_drop] at hkb
      rw[List.length_drop] at hk
      have hk3:ds[pos ds n+k]? = some b:=by rw[List.getElem?_eq_getElem (by omega),hkb]
      have h6:=pos_ge ds n h (pos ds n+k) b (by omega) hk3
      by_cases hkz:k=0
      · subst hkz
        have hne:b.1≠n:=fun e=>by
          unfold has at hh
          rw[show pos ds n=pos ds n+0 from rfl,hk3] at hh
          simp[e] at hh
        omega
      · obtain⟨c,hc⟩ : ∃c,ds[pos ds n]? = some c:=⟨_,List.getElem?_eq_getElem (by omega)⟩
        have h7:=pos_ge ds n h (pos ds n) c (Nat.le_refl _) hc
        obtain⟨hc1,hc2⟩:=List.getElem?_eq_some_iff.1 hc
        obtain⟨hb1,hb2⟩:=List.getElem?_eq_some_iff.1 hk3
        have:=List.pairwise_iff_getElem.1 h (pos ds n) (pos ds n+k) hc1 hb1 (by omega)
        rw[hc2,hb2] at this
        omega
    refine⟨h3,List.pairwise_cons.2 ⟨fun b hb=>hi b hb,h4⟩,fun a ha b hb => ?_⟩
    rcases List.mem_cons.1 hb with rfl | hb
    · exact lo a ha
    · exact h5 a ha b hb
theorem dropT_rising {ds:List (Int×Int)}(h:Rising ds)(n:Int):Rising (dropT ds n):=by
  unfold dropT
  split
  · exact h.sublist (List.eraseIdx_sublist _ _)
  · exact h
structure TabM (M:Nat→Prop) (w:World) (p:Nat) (cs:Array Value) (v:Value) (ds:List (Int×Int)):Prop where
  box:w.heap[p]? = some (.cells cs 163 (0,0))
  at0:cs[0]? = some v
  row:P2 w 288 v ds
  low : ∀k,v.ownBlock=some k→M k
  mp:M p
  rise:Rising ds
def tTurn:List Nat:=[163,288]
theorem TabM.cell {M:Nat→Prop}{w:World}{p:Nat}{cs:Array Value}{v:Value}{ds:List (Int×Int)}(h:TabM M w p cs v ds):w.cell? ⟨p,0,none⟩=some v:=by
  simp only[World.cell?,h.box];simpa using h.at0
theorem TabM.frozen {M:Nat→Prop}{w:World}{p:Nat}{cs:Array Value}{v:Value}{ds:List (Int×Int)}(h:TabM M w p cs v ds)(i:Nat):w.frozen? ⟨p,i,none⟩=false:=by simp[World.frozen?,h.box]
theorem TabM.own_ne {M:Nat→Prop}{w:World}{p:Nat}{cs:Array Value}{v:Value}{ds:List (Int×Int)}(h:TabM M w p cs v ds):v.ownBlock≠some p:=fun e=>by
  obtain⟨_,c,hc⟩:=ow_block h.row.1 e
  rw[h.box] at hc
  injection hc with hc;injection hc with _ hc
  exact absurd hc (by decide)
theorem cells2_insert (ds:List (Int×Int))(i:Nat)(n f:Int):cells2 (ds.take i++(n,f) :: ds.drop i)=(cells2 ds).take (i*2)++([.int .i64 n,.int .i64 f]++(cells2 ds).drop (i*2)):=by
  have key : ∀(ds:List (Int×Int)) (i:Nat),cells2 (ds.take i)=(cells2 ds).take (i*2)∧cells2 (ds.drop i)=(cells2 ds).drop (i*2):=by
    intro ds
    induction ds with
    | nil=>intro i;simp[cells2]
    | cons d ds ih=>
      intro i
      cases i with
      | zero=>simp[cells2]
      | succ i=>
        obtain⟨h1,h2⟩:=ih i
        unfold cells2 at h1 h2 ⊢
        simp only[List.take_succ_cons,List.drop_succ_cons,List.flatMap_cons]
        rw[h1,h2,show (i+1)*2=i*2+1+1 from by omega]
        simp
  obtain⟨h1,h2⟩:=key ds i
  rw[cells2_append,h1]
  have:cells2 ((n,f) :: ds.drop i)=[.int .i64 n,.int .i64 f]++cells2 (ds.drop i):=by simp[cells2,List.flatMap_cons]
  rw[this,h2]
theorem cells2_erase (ds:List (Int×Int))(i:Nat)(h:i<ds.length):cells2 (ds.eraseIdx i)=(cells2 ds).take (i*2)++(cells2 ds).drop ((i+1)*2):=by
  induction ds generalizing i with
  | nil=>simp at h
  | cons d ds ih=>
    cases i with
    | zero=>simp[cells2,List.flatMap_cons]
    | succ i=>
      have:=ih i (by simpa using h)
      unfold cells2 at this ⊢
      simp only[List.eraseIdx_cons_succ,List.flatMap_cons]
      rw[this]
      have e1 : ∀X:List Value,([Value.int .i64 d.1,Value.int .i64 d.2]++X).take ((i+1)*2)=[Value.int .i64 d.1,Value.int .i64 d.2]++X.take (i*2):=fun X=>by
        rw[show (i+1)*2=i*2+1+1 from by omega];rfl
      have e2 : ∀X:List Value,([Value.int .i64 d.1,Value.int .i64 d.2]++X).drop ((i+1+1)*2)=X.drop ((i+1)*2):=fun X=>by
        rw[show (i+1+1)*2=(i+1)*2+1+1 from by omega];rfl
      rw[e1,e2,List.append_assoc]
theorem tab_put {M:Nat→Prop}{w w1:World}{p:Nat}{cs:Array Value}{v v':Value}{ds ds':List (Int×Int)}(h:TabM M w p cs v ds)(ho:w1.ownsRow 0 288 2 v' ds'.length (cells2 ds'))(hl:ds'.length≤100000)(hr:Rising ds')(hg:w.grownBy w1 v.ownBlock)
    (hat:v'.ownBlock=v.ownBlock∨∀k,v'.ownBlock=some k→w.heap.size≤k) :
    TabM (Gr M w w1) (w1.setCell ⟨p,0,none⟩ v') p (cs.setIfInBounds 0 v') v' ds'∧Frm tTurn M w (w1.setCell ⟨p,0,none⟩ v'):=by
  have hpl:=heap_lt h.box
  have hb1:w1.heap[p]? = some (.cells cs 163 (0,0)):=(hg.block p hpl (fun e=>h.own_ne e.symm)).trans h.box
  have hne:v'.ownBlock≠some p:=fun e=>by
    obtain⟨_,c,hc⟩:=ow_block ho e
    rw[hb1] at hc
    injection hc with hc;injection hc with _ hc
    exact absurd hc (by decide)
  have h0:0<cs.size:=(Array.getElem?_eq_some_iff.1 h.at0).1
  have hF1:Frm tTurn M w w1:=(Frm.refl tTurn M w).grown hg (fun k hk hlt=>⟨h.low k hk,by obtain⟨_,c,hc⟩:=ow_block h.row.1 hk;rw[tag_of hc];decide⟩)
  refine⟨⟨?_,?_,⟨ow_move ho fun k hk=>Below.heap_setCell _ _ _ _ (fun e=>hne (by rw[hk];exact congrArg some e)),hl⟩,fun k hk => ?_,.inl h.mp,hr⟩,hF1.set (fun _=>⟨h.mp,by rw[tag_of h.box];decide⟩) _⟩
  · exact heap_setCell_same _ _ _ _ _ _ hb1
  · simp[h0]
  · rcases hat with hat | hat
    · exact .inl (h.low k (hat ▸ hk))
    · obtain⟨_,c,hc⟩:=ow_block ho hk
      exact .inr ⟨hat k hk,heap_lt hc⟩
def TabPost (M:Nat→Prop)(p:Nat)(cs:Array Value)(ds':List (Int×Int))(w w':World):Prop := ∃v',TabM (Gr M w w') w' p (cs.setIfInBounds 0 v') v' ds'∧Frm tTurn M w w'
theorem TabM.below {M:Nat→Prop}{w w':World}{p:Nat}{cs:Array Value}{v:Value}{ds:List (Int×Int)}(h:TabM M w p cs v ds)(hb:Below w.heap.size w w'):TabM M w' p cs v ds:=
  ⟨(hb.block p (heap_lt h.box)).trans h.box,h.at0,h.row.below hb,h.low,h.mp,h.rise⟩
theorem TabM.mono {M M':Nat→Prop}{w:World}{p:Nat}{cs:Array Value}{v:Value}{ds:List (Int×Int)}(h:TabM M w p cs v ds)(hm : ∀k,M k→M' k):TabM M' w p cs v ds:=
  ⟨h.box,h.at0,h.row,fun k hk=>hm k (h.low k hk),hm p h.mp,h.rise⟩
theorem tab_same {M:Nat→Prop}{w w':World}{p:Nat}{cs:Array Value}{v:Value}{ds:List (Int×Int)}(h:TabM M w p cs v ds)(hb:Below w.heap.size w w'):TabPost M p cs ds w w':=
  ⟨v,by
    have e:cs.setIfInBounds 0 v=cs:=by
      apply Array.ext_getElem?
      intro i
      by_cases hi:i=0
      · subst hi
        have:=(Array.getElem?_eq_some_iff.1 h.at0).1
        simp[this,h.at0]
        exact (Array.getElem?_eq_some_iff.1 h.at0).2.symm ▸ rfl
      · simp[Array.getElem?_setIfInBounds,show 0≠i from fun e=>hi e.symm]
    rw[e]
    exact (h.below hb).mono fun k hk=>.inl hk,Frm.of_below hb⟩
theorem add_calls (M:Nat→Prop)(p:Nat)(cs:Array Value)(v:Value)(ds:List (Int×Int))(n f:Int)(w:World)(ht:TabM M w p cs v ds)(hl:ds.length≤90000) :
    Calls Tryz.prog 189 #[.pointer (some ⟨p,0,none⟩),.int .i64 n,.int .i64 f] w fun e w'=>e = .returned (.tuple #[])∧TabPost M p cs (addT ds n f) w w':=by
  have HT:=Aside0.mk ht
  have hpl:=heap_lt ht.box
  have HFD:=Aside0.mk (find_calls p v ds n w ht.row ht.rise ht.cell)
  have HLL:=Aside0.mk hl
  clear ht hl
  obtain⟨k,hk⟩ : ∃k:Nat,pos ds n=k:=⟨_,rfl⟩
  have HK:=Aside0.mk hk
  cases hh:has ds n with
  | true=>
    have HA:=Aside0.mk (show addT ds n f=ds by unfold addT;rw[hh];rfl)
    have HFD':=HFD.out
    rw[hh,hk] at HFD'
    replace HFD:=Aside0.mk HFD'
    clear HFD' hh hk
    go_enter Tryz.func189,Tryz.ntmps189
    go_wp2_with fail
    refine HFD.out.mono ?_
    rintro e w1 ⟨rfl,hb⟩
    have HB:=Aside0.mk hb
    clear hb
    go_wp2_with fail
    go_end0
    exact⟨rfl,by rw[HA.out];exact tab_same HT.out HB.out⟩
  | false=>
    have HA:=Aside0.mk (show addT ds n f=ds.take k++(n,f) :: ds.drop k by unfold addT;rw[hh,hk];rfl)
    have hkl:k≤ds.length:=by rw[←hk];exact pos_le ds n
    have HFD':=HFD.out
    rw[hh,hk] at HFD'
    replace HFD:=Aside0.mk HFD'
    have HRI:=Aside0.mk (addT_rising HT.out.rise n f)
    clear HFD' hh hk
    go_enter Tryz.func189,Tryz.ntmps189
    go_wp2_with fail
    refine HFD.out.mono ?_
    rintro e w1 ⟨rfl,hb⟩
    have HB:=Aside0.mk hb
    have ht1:=HT.out.below hb
    have hc0:=ht1.cell
    have HT1:=Aside0.mk ht1
    have hpl1:=heap_lt ht1.box
    obtain⟨A,cap,hv,_⟩:=ow_slice ht1.row.1
    clear hb ht1
    subst hv
    go_wp2_with fail
    have htw:=TabM.below HT1.out (below_alloc (Below.refl _ _) (.cells #[.int .i64 n,.int .i64 f] 288))
    refine (ins_dirties 0 ds.length k w1.heap.size (.slice A ds.length cap) (cells2 ds) [.int .i64 n,.int .i64 f] _ htw.row.1 (cells2_one ds) (by have:=HLL.out;omega) hkl (heap_alloc_new w1 _) (fun e=>by
      obtain⟨_,c,hc⟩:=ow_block HT1.out.row.1 e
      have:=heap_lt hc
      omega) rfl (by intro u hu;simp at hu;rcases hu with rfl | rfl<;>rfl) (Nat.zero_le _)).mono ?_
    rintro e w2 ⟨v',rfl,ho,hg,hat⟩
    have HO2:=Aside0.mk ho
    have HG2:=Aside0.mk hg
    have HAT:=Aside0.mk hat
    have hb2:w2.heap[p]? = some (.cells cs 163 (0,0)):=(hg.block p (by simp;omega) (fun e=>HT1.out.own_ne e.symm)).trans htw.box
    have hz2:w2.frozen? ⟨p,0,none⟩=false:=by simp[World.frozen?,hb2]
    have hc2:w2.cell? ⟨p,0,none⟩=some (.slice A ds.length cap):=by simp only[World.cell?,hb2];simpa using HT1.out.at0
    obtain⟨A2,cap2,hv2,_⟩:=ow_slice ho
    clear ho hg hat hb2 htw
    subst hv2
    go_wp2_with fail
    go_end0
    refine⟨rfl,.slice A2 (ds.length+1) cap2,?_⟩
    have hlen:(addT ds n f).length=ds.length+1:=by rw[HA.out,List.length_append,List.length_cons,List.length_take,List.length_drop];omega
    have hcl:cells2 (addT ds n f)=(cells2 ds).take (k*2)++([.int .i64 n,.int .i64 f]++(cells2 ds).drop (k*2)):=by rw[HA.out];exact cells2_insert ds k n f
    have hgr:w.grownBy w2 (Value.slice A ds.length cap).ownBlock:=by
      have h1:=HB.out
      have h2:=HG2.out
      exact⟨h2.os.trans h1.os,h2.tape.trans h1.tape,h2.output.trans h1.output,Nat.le_trans h1.size (Nat.le_trans (by simp) h2.size),fun j hj hne=>(h2.block j (by simp;have:=h1.size;omega) hne).trans ((Below.heap_alloc _ _ _ (by have:=h1.size;omega)).trans (h1.block j hj))⟩
    obtain⟨r1,r2⟩:=tab_put HT.out (w1:=w2) (v':=.slice A2 (ds.length+1) cap2) (ds':=addT ds n f) (by rw[hlen,hcl];exact HO2.out) (by have:=HLL.out;omega) HRI.out hgr (by
      rcases HAT.out with h | h
      · exact .inl h
      · exact .inr fun j hj=>by have:=h j hj;have:=HB.out.size;simp at *;omega)
    exact⟨r1.mono fun j hj=>by
      rcases hj with hj | ⟨h1,h2⟩
      · exact .inl hj
      · exact .inr ⟨h1,by simpa [World.setCell] using h2⟩,r2⟩
theorem drop_calls (M:Nat→Prop)(p:Nat)(cs:Array Value)(v:Value)(ds:List (Int×Int))(n:Int)(w:World)(ht:TabM M w p cs v ds)(hl:ds.length≤90000) :
    Calls Tryz.prog 152 #[.pointer (some ⟨p,0,none⟩),.int .i64 n] w fun e w'=>e = .returned (.bool (has ds n))∧TabPost M p cs (dropT ds n) w w':=by
  have HT:=Aside0.mk ht
  have hpl:=heap_lt ht.box
  have HFD:=Aside0.mk (find_calls p v ds n w ht.row ht.rise ht.cell)
  have HLL:=Aside0.mk hl
  have hl9:ds.length≤90000:=hl
  clear ht hl
  obtain⟨k,hk⟩ : ∃k:Nat,pos ds n=k:=⟨_,rfl⟩
  cases hh:has ds n with
  | false=>
    have HA:=Aside0.mk (show dropT ds n=ds by unfold dropT;rw[hh];rfl)
    have HFD':=HFD.out
    rw[hh,hk] at HFD'
    replace HFD:=Aside0.mk HFD'
    clear HFD' hh hk
    go_enter Tryz.func152,Tryz.ntmps152
    go_wp2_with fail
    refine HFD.out.mono ?_
    rintro e w1 ⟨rfl,hb⟩
    have HB:=Aside0.mk hb
    clear hb
    go_wp2_with fail
    go_ret
    exact⟨by simp,by rw[HA.out];exact tab_same HT.out HB.out⟩
  | true=>
    obtain⟨f,hf⟩:=pos_has hh
    have hkl:k<ds.length:=by rw[←hk];exact (List.getElem?_eq_some_iff.1 hf).1
    have HA:=Aside0.mk (show dropT ds n=ds.eraseIdx k by unfold dropT;rw[hh,hk];rfl)
    have HRI:=Aside0.mk (dropT_rising HT.out.rise n)
    have HFD':=HFD.out
    rw[hh,hk] at HFD'
    replace HFD:=Aside0.mk HFD'
    clear HFD' hh hk hf
    go_enter Tryz.func152,Tryz.ntmps152
    go_wp2_with fail
    refine HFD.out.mono ?_
    rintro e w1 ⟨rfl,hb⟩
    have HB:=Aside0.mk hb
    have ht1:=HT.out.below hb
    have hc0:=ht1.cell
    have HT1:=Aside0.mk ht1
    obtain⟨g,cap,hv,_,_⟩:=ht1.row.1.form (by omega)
    clear hb ht1
    subst hv
    go_wp2_with fail
    have hj1:(k:Int)+1=((k+1:Nat):Int):=by omega
    rw[hj1]
    clear hj1
    refine (del_dirties 0 g ds.length cap k (k+1) (cells2 ds) _ HT1.out.row.1 (cells2_one ds) hkl rfl).mono ?_
    rintro e w2 ⟨rfl,ho,hg,hz⟩
    have HO2:=Aside0.mk ho
    have HG2:=Aside0.mk hg
    have hb2:w2.heap[p]? = some (.cells cs 163 (0,0)):=(hg.block p (heap_lt HT1.out.box) (fun e=>HT1.out.own_ne e.symm)).trans HT1.out.box
    have hz2:w2.frozen? ⟨p,0,none⟩=false:=by simp[World.frozen?,hb2]
    have hc2:w2.cell? ⟨p,0,none⟩=some (.slice (some ⟨g,0,none⟩) ds.length cap):=by simp only[World.cell?,hb2];simpa using HT1.out.at0
    clear ho hg hb2 hz
    go_wp2_with fail
    go_ret
    refine⟨by simp,.slice (some ⟨g,0,none⟩) (ds.length - 1) cap,?_⟩
    have hlen:(dropT ds n).length=ds.length - 1:=by rw[HA.out,List.length_eraseIdx,if_pos hkl]
    have hcl:cells2 (dropT ds n)=(cells2 ds).take (k*2)++(cells2 ds).drop ((k+1)*2):=by rw[HA.out];exact cells2_erase ds k hkl
    have hgr:w.grownBy w2 (Value.slice (some ⟨g,0,none⟩) ds.length cap).ownBlock:=by
      have h1:=HB.out
      have h2:=HG2.out
      exact⟨h2.os.trans h1.os,h2.tape.trans h1.tape,h2.output.trans h1.output,Nat.le_trans h1.size h2.size,fun j hj hne=>(h2.block j (by have:=h1.size;omega) hne).trans (h1.block j hj)⟩
    obtain⟨r1,r2⟩:=tab_put HT.out (w1:=w2) (v':=.slice (some ⟨g,0,none⟩) (ds.length - 1) cap) (ds':=dropT ds n) (by rw[hlen,hcl];exact HO2.out) (by omega) HRI.out hgr (.inl rfl)
    exact⟨r1.mono fun j hj=>by
      rcases hj with hj | ⟨h1,h2⟩
      · exact .inl hj
      · exact .inr ⟨h1,by simpa [World.setCell] using h2⟩,r2⟩
theorem all_calls (M:Nat→Prop)(p:Nat)(cs:Array Value)(v:Value)(ds:List (Int×Int))(w:World)(ht:TabM M w p cs v ds) :
    Calls Tryz.prog 149 #[.pointer (some ⟨p,0,none⟩)] w fun e w' => ∃v',e = .returned v'∧P2 w' 288 v' ds∧Below w.heap.size w w':=by
  have hc0:=ht.cell
  obtain⟨A,cap,hv,_⟩:=ow_slice ht.row.1
  have HC:=Aside0.mk (clone_dirties v ds.length (cells2 ds) w (P2.rd ht.row) (cells2_one ds))
  have HL:=Aside0.mk ht.row.2
  clear ht
  subst hv
  go_enter Tryz.func149,Tryz.ntmps149
  go_wp2_with fail
  refine HC.out.mono ?_
  rintro e w1 ⟨v1,rfl,ho,hb⟩
  have HO:=Aside0.mk ho
  have HB:=Aside0.mk hb
  obtain⟨A1,c1,rfl,_⟩:=ow_slice ho
  clear ho hb
  go_wp2_with fail
  go_ret
  exact⟨_,rfl,⟨ow_base HO.out (Nat.zero_le _),HL.out⟩,HB.out⟩
end Go.Proofs.YtaplpeoikebedaaGreatDoor.Dirty2
namespace Go.Proofs.YtaplpeoikebedaaGreatDoor.SysM
open Go.RowKit YtaplpeoikebedaaGreatDoorW.PrintWords YtaplpeoikebedaaGreatDoorW.PrintLast YtaplpeoikebedaaGreatDoorW.PrintMore
open See Mem Clone Go.Proofs.YtaplpeoikebedaaGreatDoor.Cell Page PageB PageR Disk DiskW DiskS RecD Pool1 Pool3 Wal WalF Dirty Dirty2 SysD
def forget (f:Fr):Fp:=⟨f.n,f.lsn,f.es⟩
structure FrsP (M:Nat→Prop) (w:World) (h:Value) (fs:List Fr) (here:List Fp):Prop where
  frs:FrsM w h fs
  eq:fs.map forget=here
  low : ∀k,h.ownBlock=some k→M k
def fTurn:List Nat:=[163,157]
def sTurn:List Nat:=(dTurn++lTurn)++(tTurn++fTurn)
structure HereOk (here:List Fp):Prop where
  few:here.length≤8
  once:here.Pairwise fun a b=>a.n≠b.n
  ok : ∀f∈here,pageOk f.lsn f.es=true
structure SysM (M:Nat→Prop) (w:World) (pp lp dp:Nat) (S:PSys):Prop where
  dsk:DskM M w dp S.d
  log : ∃v,LogM M w lp dp v S.l
  pool : ∃t h fs,TabM M w pp (poolCells t dp lp S.frames h) t S.t∧FrsP M w h fs S.here
  fuse:FuseOk S.d
  here:HereOk S.here
  tab:S.t.length≤80000
  frames:1≤S.frames∧S.frames≤8
theorem FrsP.move {M:Nat→Prop}{w w':World}{h:Value}{fs:List Fr}{here:List Fp}(x:FrsP M w h fs here)(hb : ∀k,k<w.heap.size→(tag w k=157→M k→w'.heap[k]? = w.heap[k]?)∧(tag w k=169→w'.heap[k]? = w.heap[k]?)):FrsP M w' h fs here:=
  ⟨⟨ow_move x.frs.row fun k hk=>by obtain⟨_,c,hc⟩:=ow_block x.frs.row hk;exact (hb k (heap_lt hc)).1 (tag_of hc) (x.low k hk),
    fun f hf=>⟨ow_move (x.frs.pages f hf).1 fun k hk=>by obtain⟨_,c,hc⟩:=ow_block (x.frs.pages f hf).1 hk;exact (hb k (heap_lt hc)).2 (tag_of hc),(x.frs.pages f hf).2⟩,x.frs.few⟩,x.eq,x.low⟩
theorem FrsP.below {M:Nat→Prop}{w w':World}{h:Value}{fs:List Fr}{here:List Fp}(x:FrsP M w h fs here)(hb:Below w.heap.size w w'):FrsP M w' h fs here:=x.move fun k hk=>⟨fun _ _=>hb.block k hk,fun _=>hb.block k hk⟩
theorem FrsP.frm {T:List Nat}{M M':Nat→Prop}{w w':World}{h:Value}{fs:List Fr}{here:List Fp}(x:FrsP M w h fs here)(hf:Frm T M' w w')(h1:157∉T)(h2:169∉T):FrsP M w' h fs here:=
  x.move fun k hk=>⟨fun ht _=>hf.block k hk fun _=>by rw[ht];exact h1,fun ht=>hf.block k hk fun _=>by rw[ht];exact h2⟩
theorem FrsP.mono {M M':Nat→Prop}{w:World}{h:Value}{fs:List Fr}{here:List Fp}(x:FrsP M w h fs here)(hm : ∀k,M k→M' k):FrsP M' w h fs here:=⟨x.frs,x.eq,fun k hk=>hm k (x.low k hk)⟩
theorem TabM.frm {T:List Nat}{M M':Nat→Prop}{w w':World}{p:Nat}{cs:Array Value}{v:Value}{ds:List (Int×Int)}(h:TabM M w p cs v ds)(hf:Frm T M' w w')(h1:163∉T)(h2:288∉T):TabM M w' p cs v ds:=
  ⟨(hf.at h.box (.inl h1)),h.at0,h.row.frm hf h2,h.low,h.mp,h.rise⟩
theorem SysM.below {M:Nat→Prop}{w w':World}{pp lp dp:Nat}{S:PSys}(h:SysM M w pp lp dp S)(hb:Below w.heap.size w w'):SysM M w' pp lp dp S:=by
  obtain⟨h1,⟨v,h2⟩,⟨t,hv,fs,h3,h4⟩,h5,h6,h7,h8⟩:=h
  exact⟨h1.below hb,⟨v,h2.below hb⟩,⟨t,hv,fs,h3.below hb,h4.below hb⟩,h5,h6,h7,h8⟩
theorem SysM.mono {M M':Nat→Prop}{w:World}{pp lp dp:Nat}{S:PSys}(h:SysM M w pp lp dp S)(hm : ∀k,M k→M' k):SysM M' w pp lp dp S:=by
  obtain⟨h1,⟨v,h2⟩,⟨t,hv,fs,h3,h4⟩,h5,h6,h7,h8⟩:=h
  exact⟨h1.mono hm,⟨v,h2.mono hm⟩,⟨t,hv,fs,h3.mono hm,h4.mono hm⟩,h5,h6,h7,h8⟩
theorem SysM.disk {M:Nat→Prop}{w w':World}{pp lp dp:Nat}{S:PSys}{d':Dsk}(h:SysM M w pp lp dp S)(hd:DskM (Gr M w w') w' dp d')(hf:Frm dTurn M w w')(hfu:FuseOk d'):SysM (Gr M w w') w' pp lp dp { S with d:=d' }:=by
  obtain⟨h1,⟨v,h2⟩,⟨t,hv,fs,h3,h4⟩,h5,h6,h7,h8⟩:=h
  exact⟨hd,⟨v,(h2.frm hf (by decide)).mono fun k hk=>.inl hk⟩,⟨t,hv,fs,(TabM.frm h3 hf (by decide) (by decide)).mono fun k hk=>.inl hk,(h4.frm hf (by decide) (by decide)).mono fun k hk=>.inl hk⟩,hfu,h6,h7,h8⟩
theorem SysM.logd {M:Nat→Prop}{w w':World}{pp lp dp:Nat}{S:PSys}{d':Dsk}{L':Lg}(h:SysM M w pp lp dp S)(hd:DskM (Gr M w w') w' dp d')(hl : ∃v,LogM (Gr M w w') w' lp dp v L')(hf:Frm (dTurn++lTurn) M w w')(hfu:FuseOk d'):SysM (Gr M w w') w' pp lp dp { S with l:=L',d:=d' }:=by
  obtain⟨h1,⟨v,h2⟩,⟨t,hv,fs,h3,h4⟩,h5,h6,h7,h8⟩:=h
  exact⟨hd,hl,⟨t,hv,fs,(TabM.frm h3 hf (by decide) (by decide)).mono fun k hk=>.inl hk,(h4.frm hf (by decide) (by decide)).mono fun k hk=>.inl hk⟩,hfu,h6,h7,h8⟩
theorem poolCells_set0 (t t' h:Value)(d l:Nat)(f:Int):(poolCells t d l f h).setIfInBounds 0 t'=poolCells t' d l f h:=rfl
theorem poolCells_set4 (t h h':Value)(d l:Nat)(f:Int):(poolCells t d l f h).setIfInBounds 4 h'=poolCells t d l f h':=rfl
theorem SysM.tabs {M:Nat→Prop}{w w':World}{pp lp dp:Nat}{S:PSys}{ds':List (Int×Int)}{t h:Value}{fs:List Fr}(x:SysM M w pp lp dp S)(ht:TabM M w pp (poolCells t dp lp S.frames h) t S.t)(hh:FrsP M w h fs S.here)(hp:TabPost M pp (poolCells t dp lp S.frames h) ds' w w')(hl:ds'.length≤80000):SysM (Gr M w w') w' pp lp dp { S with t:=ds' }∧Frm tTurn M w w':=by
  obtain⟨h1,⟨v,h2⟩,_,h5,h6,h7,h8⟩:=x
  obtain⟨t',htab,hf⟩:=hp
  refine⟨⟨(h1.frm hf (by decide)).mono fun k hk=>.inl hk,⟨v,(h2.frm hf (by decide)).mono fun k hk=>.inl hk⟩,⟨t',h,fs,?_,(hh.frm hf (by decide) (by decide)).mono fun k hk=>.inl hk⟩,h5,h6,hl,h8⟩,hf⟩
  rw[poolCells_set0] at htab
  exact htab
theorem frm_sys1 {M:Nat→Prop}{w w':World}(h:Frm dTurn M w w'):Frm sTurn M w w':=frm_app (frm_app h)
theorem frm_sys2 {M:Nat→Prop}{w w':World}(h:Frm (dTurn++lTurn) M w w'):Frm sTurn M w w':=frm_app h
theorem frm_sys3 {M:Nat→Prop}{w w':World}(h:Frm tTurn M w w'):Frm sTurn M w w':=frm_app2 (frm_app h)
theorem frm_sys4 {M:Nat→Prop}{w w':World}(h:Frm fTurn M w w'):Frm sTurn M w w':=frm_app2 (frm_app2 h)
theorem idx_find (n:Int) : ∀(fs:List Fr) (k:Int),(findP (fs.map forget) n=none∧idxFrom n fs k = -1)∨(∃(i:Nat) (f:Fr),findP (fs.map forget) n=some (forget f)∧fs[i]? = some f∧f.n=n∧idxFrom n fs k=k+i)
  | [],k=>.inl ⟨rfl,rfl⟩
  | f :: fs,k=>by
    by_cases h:f.n=n
    · refine .inr ⟨0,f,?_,rfl,h,?_⟩
      · simp[findP,forget,h]
      · unfold idxFrom;rw[if_pos h];omega
    · rcases idx_find n fs (k+1) with ⟨h1,h2⟩ | ⟨i,g,h1,h2,h3,h4⟩
      · refine .inl ⟨?_,by unfold idxFrom;rw[if_neg h];exact h2⟩
        unfold findP at h1 ⊢
        rw[List.map_cons,List.find?_cons]
        simp only[forget,h,decide_false]
        exact h1
      · refine .inr ⟨i+1,g,?_,by simpa using h2,h3,by unfold idxFrom;rw[if_neg h,h4];omega⟩
        unfold findP at h1 ⊢
        rw[List.map_cons,List.find?_cons]
        simp only[forget,h,decide_false]
        exact h1
def flushTail (S:PSys)(n:Int)(f:Fp):PSys×Option Nat:=
  match writeE S.d n (pageBytes f.lsn f.es) with
  | some e=>({ S with d:=writeD S.d n (pageBytes f.lsn f.es) },some e)
  | none=>({ S with d:=writeD S.d n (pageBytes f.lsn f.es),t:=dropT S.t n },none)
theorem flushS_none {S:PSys}{n:Int}(h:findP S.here n=none):flushS S n=(S,none):=by unfold flushS;rw[h]
theorem flushS_clean {S:PSys}{n:Int}(h:has S.t n=false):flushS S n=(S,none):=by
  unfold flushS
  cases findP S.here n with
  | none=>rfl
  | some f=>simp[h]
theorem flushS_tail {S:PSys}{n:Int}{f:Fp}(hf:findP S.here n=some f)(h:has S.t n=true)(hl : ¬S.l.doneN<f.lsn):flushS S n=flushTail S n f:=by
  unfold flushS flushTail
  rw[hf]
  simp only[h,hl,if_false,Bool.true_eq_false]
  cases writeE S.d n (pageBytes f.lsn f.es)<;>rfl
theorem flushS_log {S:PSys}{n:Int}{f:Fp}(hf:findP S.here n=some f)(h:has S.t n=true)(hl:S.l.doneN<f.lsn){L':Lg}{d':Dsk}(hq:lflush S.l S.d=(L',d',none)):flushS S n=flushTail { S with l:=L',d:=d' } n f:=by
  unfold flushS flushTail
  rw[hf]
  simp only[h,hl,if_true,if_false,Bool.true_eq_false,hq]
  cases writeE d' n (pageBytes f.lsn f.es)<;>rfl
theorem flushS_err {S:PSys}{n:Int}{f:Fp}(hf:findP S.here n=some f)(h:has S.t n=true)(hl:S.l.doneN<f.lsn){L':Lg}{d':Dsk}{e:Nat}(hq:lflush S.l S.d=(L',d',some e)):flushS S n=({ S with l:=L',d:=d' },some e):=by
  unfold flushS
  rw[hf]
  simp only[h,hl,if_true,if_false,Bool.true_eq_false,hq]
theorem flushFrom_ok {L:Lg} : ∀(f k:Nat) (d:Dsk) (m:Nat),FuseOk d→LooseLe d m→FuseOk (flushFrom L f k d).1∧LooseLe (flushFrom L f k d).1 (m+f)∧(flushFrom L f k d).1.l.length=d.l.length
  | 0,k,d,m,h1,h2=>⟨h1,h2,rfl⟩
  | f+1,k,d,m,h1,h2=>by
    by_cases hk:k*6<L.l.length
    · cases he:writeE d (L.first+k) (blockBytes L.epoch ((L.l.drop (k*6)).take 6)) with
      | some e=>
        rw[flushFrom_err hk he]
        exact⟨writeD_fuse _ _ h1,(writeD_loose _ _ h2).mono (by omega),writeD_len _ _ _⟩
      | none=>
        rw[flushFrom_next hk he]
        obtain⟨a,b,c⟩:=flushFrom_ok f (k+1) _ (m+1) (writeD_fuse _ _ h1) (writeD_loose _ _ h2)
        exact⟨a,b.mono (by omega),by rw[c,writeD_len]⟩
    · rw[flushFrom_stop hk]
      exact⟨h1,h2.mono (by omega),rfl⟩
theorem syncD_ok {d:Dsk}{m:Nat}(h1:FuseOk d)(h2:LooseLe d m):FuseOk (syncD d)∧LooseLe (syncD d) m∧(syncD d).l.length=d.l.length:=by
  unfold syncD
  split
  · exact⟨h1,h2,rfl⟩
  · split
    · refine⟨spendD_fuse h1,fun s hs => ?_,by simp⟩
      obtain⟨s0,_,rfl⟩:=List.mem_map.1 hs
      simp[fastS]
    · exact⟨spendD_fuse h1,fun s hs=>h2 s (by rw[spendD_l] at hs;exact hs),by rw[spendD_l]⟩
theorem lflush_ok {L:Lg}{d:Dsk}{m:Nat}(h1:FuseOk d)(h2:LooseLe d m):FuseOk (lflush L d).2.1∧LooseLe (lflush L d).2.1 (m+(L.l.length+1))∧(lflush L d).2.1.l.length=d.l.length:=by
  by_cases h:L.done=L.l.length
  · unfold lflush;rw[if_pos h];exact⟨h1,h2.mono (by omega),rfl⟩
  · rw[lflush_end h]
    obtain⟨a,b,c⟩:=flushFrom_ok (L:=L) (L.l.length+1) (L.done / 6) d m h1 h2
    generalize flushFrom L (L.l.length+1) (L.done / 6) d=r at a b c
    obtain⟨d',o⟩:=r
    cases o with
    | some e=>exact⟨a,b,c⟩
    | none=>
      obtain⟨x,y,z⟩:=syncD_ok a b
      unfold flushEnd
      simp only
      cases syncE d' with
      | some e=>exact⟨x,y,z.trans c⟩
      | none=>exact⟨x,y,z.trans c⟩
end Go.Proofs.YtaplpeoikebedaaGreatDoor.SysM
