/- Joined texts: Ins2, Clone2. No condition but what each says. -/
import Derived.Test.YtaplpeoikebedaaGreatDoorY14
import Derived.Test.YtaplpeoikebedaaGreatDoorY3
set_option maxHeartbeats 8000000
set_option maxRecDepth 100000
set_option linter.unusedVariables false
set_option linter.unusedSimpArgs false
namespace Go.Proofs.YtaplpeoikebedaaGreatDoor.Ins2
open Go.RowKit YtaplpeoikebedaaGreatDoorW.PrintWords YtaplpeoikebedaaGreatDoorW.PrintLast YtaplpeoikebedaaGreatDoorW.PrintMore
open See Mem Clone Rw Del Fill Ins
theorem iinfo_entries:(Tryz.prog.info? 169).map (fun i=>(i.zero,i.size,i.bytes))=some (some (.agg #[.int .i64 0,.int .i64 0]),2,16):=by kernel_rfl
theorem isize_entries:(Tryz.prog.info? 169).map (·.size)=some 2:=by kernel_rfl
theorem isizeof_entries (w:World):(Go.sizeOf 169).run Tryz.prog w = .ok 2 w:=by kernel_rfl
theorem ione_entries (m:Nat) : ∀u∈(Builtin.zeroCells (.agg #[.int .i64 0,.int .i64 0]:Value).cells m).toList,u.oneCell'=true:=by
  intro u hu
  unfold Builtin.zeroCells at hu
  simp only[Array.toList_map,List.mem_map] at hu
  obtain⟨j,hj,rfl⟩:=hu
  have h:j % 2<2:=Nat.mod_lt _ (by decide)
  show ((#[.int .i64 0,.int .i64 0]:Array Value)[j % 2]!).oneCell'=true
  match j % 2,h with
  | 0,_=>rfl
  | 1,_=>rfl
theorem ins_end_entries (base n i vb:Nat)(v:Value)(xs news:List Value)(w:World)(hown:w.ownsRow base 169 2 v n xs)(hn:n≤100000)(hi:i=n)(hvb:w.heap[vb]? = some (.cells news.toArray 169 (0,0)))(hnl:news.length=2)(hn1 : ∀u∈news,u.oneCell'=true)(hb:base≤w.heap.size) :
    Calls Tryz.prog 216 #[v,.int .i64 i,.slice (some ⟨vb,0,none⟩) 1 1] w fun e w' => ∃v',e = .returned v'∧w'.ownsRow base 169 2 v' (n+1) (xs++news)∧w.grownBy w' v.ownBlock∧(v'.ownBlock=v.ownBlock∨∀k,v'.ownBlock=some k→w.heap.size≤k):=by
  obtain⟨i0,hi0,hzz⟩:=Option.map_eq_some_iff.1 iinfo_entries
  simp only[Prod.mk.injEq] at hzz
  obtain⟨hz0,hz1,hz2⟩:=hzz
  have HO:=Aside0.mk hown
  have HNW:=Aside0.mk (World.news_of_block hvb)
  have hncm : ∀A c,v = .slice A n c→n≤c∧c≤maxLen:=fun A c hv=>by
    rcases hown.2 with ⟨h1,h2⟩ | ⟨g',cap',cur,h1,_,_,h3,h4,_⟩
    · rw[h1] at hv;injection hv with _ e2 e3;exact⟨by omega,by unfold maxLen;omega⟩
    · rw[h1] at hv;injection hv with _ e2 e3;subst e3;exact⟨h3,h4⟩
  obtain⟨A,cap,hv,hA⟩:=ow_slice hown
  obtain⟨hnc,hcm⟩:=hncm A cap hv
  unfold maxLen at hcm
  subst hi
  have HW1:=Aside0.mk hn1
  have HNL:=Aside0.mk hnl
  clear hown hvb hncm hn1 hnl
  subst hv
  have hA2:A=none∨∃a,A=some a:=by cases A with
    | none=>exact .inl rfl
    | some a=>exact .inr ⟨a,rfl⟩
  rcases hA2 with rfl | ⟨ad,rfl⟩
  · obtain⟨h0,h1⟩:=hA rfl
    subst h0 h1
    clear hA
    go_enter Tryz.func216,Tryz.ntmps216
    go_wp2_with (at_builtin;refine wpList_append_lies _ (by rfl) (.tmp 23) (.tmp 24) 72 (by rfl) base 169 i0 (.agg #[.int .i64 0,.int .i64 0]) 2 16 Tryz.underlying72 hi0 hz0 hz1 hz2 rfl (by decide) (.slice none 0 0) 0 xs (by rfl) HO.out ⟨vb,0,none⟩ 1 1 news (by rfl) (by rw[HNL.out]) (by exact HNW.out) HW1.out (by decide) (by decide) (by decide) hb _ rfl ?_)
    intro g2 cap2 w3 hown hgr hor hlt3
    go_wp2_with fail
    go_ret
    exact⟨_,rfl,hown,hgr,by
      rcases hor with h | h
      · exact .inl h.symm
      · exact .inr fun k hk => by have : g2 = k := by simpa [Value.ownBlock] using hk
                                  omega⟩
  · obtain⟨ab,ao,asp⟩:=ad
    have h1:((i:Int) == (i:Int))=true:=by simp
    clear hA
    go_enter Tryz.func216,Tryz.ntmps216
    go_wp2_with (at_builtin;refine wpList_append_lies _ (by rfl) (.tmp 23) (.tmp 24) 72 (by rfl) base 169 i0 (.agg #[.int .i64 0,.int .i64 0]) 2 16 Tryz.underlying72 hi0 hz0 hz1 hz2 rfl (by decide) (.slice (some ⟨ab,ao,asp⟩) i cap) i xs (by rfl) HO.out ⟨vb,0,none⟩ 1 1 news (by rfl) (by rw[HNL.out]) (by exact HNW.out) HW1.out (by decide) (by unfold maxLen;omega) (by omega) hb _ rfl ?_;intro g2 cap2 w3 hown hgr hor hlt3)
    all_goals
      go_ret
      exact⟨.slice (some ⟨g2,0,none⟩) (i+1) cap2,by simp,hown,hgr,by
        rcases hor with h | h
        · exact .inl h.symm
        · exact .inr fun k hk => by have : g2 = k := by simpa [Value.ownBlock] using hk
                                    omega⟩
theorem ins_grow_entries (base g n cap i vb:Nat)(xs news:List Value)(w:World)(hown:w.ownsRow base 169 2 (.slice (some ⟨g,0,none⟩) n cap) n xs)(h1 : ∀u∈xs,u.oneCell'=true)(hn:n≤100000)(hi:i<n)(hcap:cap<n+1)(hvb:w.heap[vb]? = some (.cells news.toArray 169 (0,0)))(hnl:news.length=2)(hn1 : ∀u∈news,u.oneCell'=true)(hb:base≤w.heap.size) :
    Calls Tryz.prog 216 #[.slice (some ⟨g,0,none⟩) n cap,.int .i64 i,.slice (some ⟨vb,0,none⟩) 1 1] w fun e w' => ∃v',e = .returned v'∧w'.ownsRow base 169 2 v' (n+1) (xs.take (i*2)++(news++xs.drop (i*2)))∧w.grownBy w' none∧(∀k,v'.ownBlock=some k→w.heap.size≤k):=by
  obtain⟨i0,hi0,hzz⟩:=Option.map_eq_some_iff.1 iinfo_entries
  simp only[Prod.mk.injEq] at hzz
  obtain⟨hz0,hz1,hz2⟩:=hzz
  obtain⟨hcs,hfz,hrd,hnc,hcm⟩:=own_cells hown
  have hxl:=hown.1
  have hgl:g<w.heap.size:=by obtain⟨_,cg,hcg⟩:=ow_block hown rfl;exact heap_lt hcg
  unfold maxLen at hcm
  obtain⟨m,hm⟩ : ∃m:Nat,n+1 - i=m:=⟨_,rfl⟩
  -- append(s[:i], make(S, n+m-i)...)
  obtain⟨c2,W2,hr2,ho2,hg2⟩:=zeros_grow (P:=Tryz.prog) w base 72 3 72 169 i0 (.agg #[.int .i64 0,.int .i64 0]) 2 16 Tryz.underlying72 Tryz.underlying3 hi0 hz0 hz1 hz2 rfl (by decide) (by decide) g i cap (xs.take (i*2)) (own_cut hown (by omega)) .i64 m (by omega) (by omega) (ione_entries m) (by omega) hb
  obtain⟨ys,hys⟩ : ∃ys,xs.take (i*2)++(Builtin.zeroCells (.agg #[.int .i64 0,.int .i64 0]:Value).cells m).toList=ys:=⟨_,rfl⟩
  rw[hys] at ho2
  have him:i+m=n+1:=by omega
  rw[him] at ho2 hr2
  obtain⟨hcs2,hfz2,hrd2,hnc2,hcm2⟩:=own_cells ho2
  unfold maxLen at hcm2
  have hkeep : ∀k,k<w.heap.size→W2.heap[k]? = w.heap[k]? := fun k hk=>hg2.block k hk (by simp)
  have hnb:=World.news_of_block hvb
  have hvbl:=heap_lt hvb
  -- copy(s2[i:], v)
  obtain⟨o3,g3⟩:=own_setCells news (i*2) W2 ys ho2
  obtain⟨W3,hW3⟩ : ∃W3,W2.setCells w.heap.size (i*2) news=W3:=⟨_,rfl⟩
  rw[hW3] at o3 g3
  have hcp1 : ∀ty dc,(Builtin.copy_ #[72,72] ty #[.slice (some ⟨w.heap.size,i*2,none⟩) (n+1 - i) dc,.slice (some ⟨vb,0,none⟩) 1 1]).run Tryz.prog W2 = .ok (goInt 1) W3:=fun ty dc=>by
    rw[←hW3]
    exact copy_cells W2 _ _ ty 169 2 w.heap.size (i*2) (n+1 - i) dc ⟨vb,0,none⟩ 1 1 news Tryz.underlying72 isize_entries (by rw[hnl,show Nat.min 1 (n+1 - i)=1 from by simp only[Nat.min_def];split<;>omega]) 1 (by simp only[Nat.min_def];split<;>omega)
      (fun j v hj=>by
        have:=hnb j v hj
        rw[add_at] at this ⊢
        exact (World.cell?_of_block (w:=w) (a:=⟨vb,0+j,none⟩) (hkeep vb hvbl)).trans this)
      (fun j hj=>hcs2 _ (by rw[hnl] at hj;have:(i+1)*2≤c2*2:=Nat.mul_le_mul_right _ (by omega);omega)) (fun j hj=>hfz2 _) hn1
  obtain⟨hcs3,hfz3,_,_,_⟩:=own_cells o3
  -- copy(s2[i+m:], s[i:])
  obtain⟨o4,g4⟩:=own_setCells (xs.drop (i*2)) ((i+1)*2) W3.drew _ o3.drew
  have hdl:(xs.drop (i*2)).length=(n - i)*2:=by rw[List.length_drop,hxl];omega
  have hcp2 : ∀ty dc sc,(Builtin.copy_ #[72,72] ty #[.slice (some ⟨w.heap.size,(i+1)*2,none⟩) (n - i) dc,.slice (some ⟨g,i*2,none⟩) (n - i) sc]).run Tryz.prog W3.drew = .ok (goInt (n - i:Nat)) (W3.drew.setCells w.heap.size ((i+1)*2) (xs.drop (i*2))):=fun ty dc sc=>by
    exact copy_cells W3.drew _ _ ty 169 2 w.heap.size ((i+1)*2) (n - i) dc ⟨g,i*2,none⟩ (n - i) sc (xs.drop (i*2)) Tryz.underlying72 isize_entries (by rw[hdl,show Nat.min (n - i) (n - i)=n - i from by simp only[Nat.min_def];split<;>omega]) (n - i) (by simp only[Nat.min_def];split<;>omega)
      (fun j v hj=>by
        rw[Addr.add_lit]
        have hk3:W3.heap[g]? = w.heap[g]? := by rw[←hW3,setCells_other (by omega)];exact hkeep g hgl
        show W3.cell? _=_
        rw[World.cell?_of_block (w:=w) (a:=⟨g,i*2+j,none⟩) hk3]
        exact hrd _ v (by rw[List.getElem?_drop] at hj;exact hj))
      (fun j hj=>hcs3 _ (by rw[hdl] at hj;have:(i+1+(n - i))*2≤c2*2:=Nat.mul_le_mul_right _ (by omega);rw[Nat.add_mul] at this;omega)) (fun j hj=>hfz3 _) (fun v hv=>h1 v (List.mem_of_mem_drop hv))
  have HFIN:=Aside0.mk (show (W3.drew.setCells w.heap.size ((i+1)*2) (xs.drop (i*2))).ownsRow base 169 2 (.slice (some ⟨w.heap.size,0,none⟩) (n+1) c2) (n+1) (xs.take (i*2)++(news++xs.drop (i*2)))∧w.grownBy (W3.drew.setCells w.heap.size ((i+1)*2) (xs.drop (i*2))) none from by
    rw[←hys,ins_grow_eq xs _ news n i 2 hxl (by rw[Array.length_toList,size_zeroCells,hm];rfl) hnl hi] at o4
    refine⟨o4,⟨?_,?_,?_,?_,fun k hk _ => ?_⟩⟩
    · exact g4.os.trans (g3.os.trans hg2.os)
    · exact g4.tape.trans (g3.tape.trans hg2.tape)
    · exact g4.output.trans (g3.output.trans hg2.output)
    · exact Nat.le_trans hg2.size (Nat.le_trans g3.size g4.size)
    · rw[setCells_other (show k≠w.heap.size by omega)]
      show W3.heap[k]? = _
      rw[←hW3,setCells_other (show k≠w.heap.size by omega)]
      exact hkeep k hk)
  have hm2:IntKind.i64.wrap ((n:Int)+1)=(n:Int)+1:=IntWalk.i64_in _ (by omega)
  have hm3:IntKind.i64.wrap ((n:Int)+1 - (i:Int))=(m:Int):=by rw[IntWalk.i64_in _ (by omega)];omega
  have hm4:(n:Int)+1 - (i:Int)=(m:Int):=by omega
  have hne:((i:Int) == (n:Int))=false:=by simp;omega
  have hgt:decide ((n:Int)+1>(cap:Int))=true:=decide_eq_true (by omega)
  have hc0 : ¬cap=i:=by omega
  have hc1 : ¬c2=i:=by omega
  have hc3 : ¬c2=i+1:=by omega
  have hi5:i≤100000:=by omega
  have hin:i≤n:=by omega
  have hcm3:cap≤100000:=by omega
  have hm5:IntKind.i64.wrap ((i:Int)+1)=(i:Int)+1:=IntWalk.i64_in _ (by omega)
  have htn:((i:Int)+1).toNat=i+1:=by omega
  have hb1:(0:Int)≤(i:Int)+1:=by omega
  have hb5:(i:Int)+1≤(n:Int)+1:=by omega
  have HR2:=Aside0.mk hr2
  have HM4:=Aside0.mk hm4
  have HCP1:=Aside0.mk hcp1
  have HCP2:=Aside0.mk hcp2
  clear hown h1 hcs hfz hrd hxl hr2 ho2 hg2 hys him hcs2 hfz2 hrd2 hkeep hnb hvbl o3 g3 hW3 hcp1 hcs3 hfz3 o4 g4 hdl hcp2 hvb hnl hn1 hb hi0 hz0 hz1 hz2 hm hm4 hcm
  go_enter Tryz.func216,Tryz.ntmps216
  go_wp2_with (first
    | (at_builtin;refine Lib.wpList_append_run _ rfl (.tmp 34) (.tmp 39) 72 3 rfl (.slice (some ⟨g,0,none⟩) i cap) (.int .i64 m) (by rfl) (by first | rfl | (rw[←HM4.out];rfl)) _ _ HR2.out ?_)
    | (refine wpList_copy_run _ rfl (.tmp 43) (.tmp 44) 72 72 rfl (.slice (some ⟨w.heap.size,i*2,none⟩) (n+1 - i) (c2 - i)) _ (by rfl) (by rfl) (HCP1.out _ _) ?_))
  go_region_law (refine step_copy_run rfl (.tmp 50) (.tmp 53) 72 72 rfl (.slice (some ⟨w.heap.size,(i+1)*2,none⟩) (n - i) (c2 - (i+1))) (.slice (some ⟨g,i*2,none⟩) (n - i) (cap - i)) (by simp[Act.eval,Act.put]) (by simp[Act.eval,Act.put]) (HCP2.out 3 (c2 - (i+1)) (cap - i)) ?_)
  go_wp2_with fail
  go_ret
  exact⟨.slice (some ⟨w.heap.size,0,none⟩) (n+1) c2,by simp,HFIN.out.1,HFIN.out.2,fun k hk=>by
    have:w.heap.size=k:=by simpa [Value.ownBlock] using hk
    omega⟩
theorem ins_shift_entries (base g n cap i vb:Nat)(xs news:List Value)(w:World)(hown:w.ownsRow base 169 2 (.slice (some ⟨g,0,none⟩) n cap) n xs)(h1 : ∀u∈xs,u.oneCell'=true)(hn:n≤100000)(hi:i<n)(hcap:n+1≤cap)(hvb:w.heap[vb]? = some (.cells news.toArray 169 (0,0)))(hvg:vb≠g)(hnl:news.length=2)(hn1 : ∀u∈news,u.oneCell'=true)(hb:base≤w.heap.size) :
    Calls Tryz.prog 216 #[.slice (some ⟨g,0,none⟩) n cap,.int .i64 i,.slice (some ⟨vb,0,none⟩) 1 1] w fun e w'=>e = .returned (.slice (some ⟨g,0,none⟩) (n+1) cap)∧w'.ownsRow base 169 2 (.slice (some ⟨g,0,none⟩) (n+1) cap) (n+1) (xs.take (i*2)++(news++xs.drop (i*2)))∧w.grownBy w' (some g):=by
  obtain⟨hcs,hfz,hrd,hnc,hcm⟩:=own_cells hown
  have hxl:=hown.1
  unfold maxLen at hcm
  obtain⟨cg,hcg,hcgs,hcgt⟩ : ∃cg,w.heap[g]? = some (.cells cg 169 (0,0))∧cg.size=cap*2∧cg.toList.take (n*2)=xs:=by
    rcases hown.2 with ⟨h2,_⟩ | ⟨g',cap',cur,hv,hg,hh,hnc',hcm',hsz,htk⟩
    · cases h2
    · simp at hv
      obtain⟨rfl,rfl⟩:=hv
      exact⟨cur,hh,hsz,htk⟩
  -- the row, one element longer
  have hlong:w.ownsRow base 169 2 (.slice (some ⟨g,0,none⟩) (n+1) cap) (n+1) (cg.toList.take ((n+1)*2)):=by
    have hle:(n+1)*2≤cap*2:=Nat.mul_le_mul_right _ hcap
    refine⟨by rw[List.length_take,Array.length_toList,hcgs];omega,.inr ⟨g,cap,cg,rfl,(ow_block hown rfl).1,hcg,hcap,by unfold maxLen;omega,hcgs,rfl⟩⟩
  obtain⟨ys,hys⟩ : ∃ys,cg.toList.take ((n+1)*2)=ys:=⟨_,rfl⟩
  have hyl:ys.length=(n+1)*2:=by rw[←hys];exact hlong.1
  have hyx:ys.take (n*2)=xs:=by rw[←hys,List.take_take,Nat.min_eq_left (Nat.mul_le_mul_right _ (by omega))];exact hcgt
  rw[hys] at hlong
  have hnb:=World.news_of_block hvb
  have hdl:(xs.drop (i*2)).length=(n - i)*2:=by rw[List.length_drop,hxl];omega
  obtain⟨o1,g1⟩:=own_setCells (xs.drop (i*2)) ((i+1)*2) w.drew _ hlong.drew
  obtain⟨W1,hW1⟩ : ∃W1,w.drew.setCells g ((i+1)*2) (xs.drop (i*2))=W1:=⟨_,rfl⟩
  have hcp1 : ∀ty dc sc,(Builtin.copy_ #[72,72] ty #[.slice (some ⟨g,(i+1)*2,none⟩) (n - i) dc,.slice (some ⟨g,i*2,none⟩) (n+1 - i) sc]).run Tryz.prog w.drew = .ok (goInt (n - i:Nat)) W1:=fun ty dc sc=>by
    rw[←hW1]
    exact copy_cells w.drew _ _ ty 169 2 g ((i+1)*2) (n - i) dc ⟨g,i*2,none⟩ (n+1 - i) sc (xs.drop (i*2)) Tryz.underlying72 isize_entries (by rw[hdl,show Nat.min (n+1 - i) (n - i)=n - i from by simp only[Nat.min_def];split<;>omega]) (n - i) (by simp only[Nat.min_def];split<;>omega)
      (fun j v hj=>by rw[Addr.add_lit];exact hrd _ v (by rw[List.getElem?_drop] at hj;exact hj))
      (fun j hj=>hcs _ (by rw[hdl] at hj;have:(i+1+(n - i))*2≤cap*2:=Nat.mul_le_mul_right _ (by omega);rw[Nat.add_mul] at this;omega)) (fun j hj=>hfz _) (fun v hv=>h1 v (List.mem_of_mem_drop hv))
  rw[hW1] at o1 g1
  obtain⟨hcs1,hfz1,_,_,_⟩:=own_cells o1
  obtain⟨o2,g2⟩:=own_setCells news (i*2) W1 _ o1
  have hcp2 : ∀ty dc,(Builtin.copy_ #[72,72] ty #[.slice (some ⟨g,i*2,none⟩) (n+1 - i) dc,.slice (some ⟨vb,0,none⟩) 1 1]).run Tryz.prog W1 = .ok (goInt 1) (W1.setCells g (i*2) news):=fun ty dc=>by
    exact copy_cells W1 _ _ ty 169 2 g (i*2) (n+1 - i) dc ⟨vb,0,none⟩ 1 1 news Tryz.underlying72 isize_entries (by rw[hnl,show Nat.min 1 (n+1 - i)=1 from by simp only[Nat.min_def];split<;>omega]) 1 (by simp only[Nat.min_def];split<;>omega)
      (fun j v hj=>by
        have:=hnb j v hj
        rw[add_at] at this ⊢
        exact (World.cell?_of_block (w:=w) (a:=⟨vb,0+j,none⟩) (by rw[←hW1,setCells_other hvg];rfl)).trans this)
      (fun j hj=>hcs1 _ (by rw[hnl] at hj;have:(i+1)*2≤cap*2:=Nat.mul_le_mul_right _ (by omega);omega)) (fun j hj=>hfz1 _) hn1
  have HFIN:=Aside0.mk (show (W1.setCells g (i*2) news).ownsRow base 169 2 (.slice (some ⟨g,0,none⟩) (n+1) cap) (n+1) (xs.take (i*2)++(news++xs.drop (i*2)))∧w.grownBy (W1.setCells g (i*2) news) (some g) from by
    rw[ins_shift_eq xs ys news n i 2 hxl hyl hyx hnl hi] at o2
    exact⟨o2,⟨g2.os.trans g1.os,g2.tape.trans g1.tape,g2.output.trans g1.output,Nat.le_trans g1.size g2.size,fun k hk hkg=>(g2.block k (Nat.lt_of_lt_of_le hk g1.size) hkg).trans (g1.block k hk hkg)⟩⟩)
  have hov : ∀lb cb,(callFunc 234 #[.slice (some ⟨vb,0,none⟩) 1 1,.slice (some ⟨g,(i+1)*2,none⟩) lb cb]).run Tryz.prog w = .ok (.value (.bool false)) w:=fun lb cb=>by
    rw[run_callFunc_extern Tryz.func234 (by kernel_rfl) (by kernel_rfl) (by kernel_rfl) (e:=Extern.SlicesOverlaps.overlaps #[72,72] #[4]) (by kernel_rfl),
      Lib.run_overlaps_apart w 72 4 169 Tryz.underlying72 2 isizeof_entries ⟨vb,0,none⟩ ⟨g,(i+1)*2,none⟩ 1 1 lb cb hvg 169 169 2 (cap*2) (by simp[World.shape?,hvb,hnl]) (by simp[World.shape?,hcg,hcgs]) (by omega) (by simp[World.frozen?,hvb]) (by simp[World.frozen?,hvb])]
    rfl
  have hm2:IntKind.i64.wrap ((n:Int)+1)=(n:Int)+1:=IntWalk.i64_in _ (by omega)
  have hm5:IntKind.i64.wrap ((i:Int)+1)=(i:Int)+1:=IntWalk.i64_in _ (by omega)
  have htn:((i:Int)+1).toNat=i+1:=by omega
  have htn2:((n:Int)+1).toNat=n+1:=by omega
  have hne:((i:Int) == (n:Int))=false:=by simp;omega
  have hgt:decide ((n:Int)+1>(cap:Int))=false:=decide_eq_false (by omega)
  have hb1:(0:Int)≤(i:Int)+1:=by omega
  have hb3:(i:Int)≤(n:Int)+1:=by omega
  have hb5:(i:Int)+1≤(n:Int)+1:=by omega
  have hc0 : ¬cap=i:=by omega
  have hc1 : ¬cap=i+1:=by omega
  have hin:i≤n:=by omega
  have hin2:i≤n+1:=by omega
  have hin3:i+1≤n+1:=by omega
  have HCP1:=Aside0.mk hcp1
  have HCP2:=Aside0.mk hcp2
  clear hown h1 hcs hfz hrd hxl hcg hcgs hcgt hlong hys hyl hyx hnb hdl o1 g1 hW1 hcp1 hcs1 hfz1 o2 g2 hcp2 hvb hnl hn1 hb
  go_enter Tryz.func216,Tryz.ntmps216
  go_wp2_with (simp only[hov])
  go_region_law (refine step_copy_run rfl (.tmp 73) (.tmp 76) 72 72 rfl (.slice (some ⟨g,(i+1)*2,none⟩) (n - i) (cap - (i+1))) (.slice (some ⟨g,i*2,none⟩) (n+1 - i) (cap - i)) (by simp[Act.eval,Act.put]) (by simp[Act.eval,Act.put]) (HCP1.out 3 (cap - (i+1)) (cap - i)) ?_)
  go_wp2_with (refine wpList_copy_run _ rfl (.tmp 80) (.tmp 81) 72 72 rfl _ _ rfl rfl (HCP2.out _ _) ?_)
  go_ret
  exact⟨by simp,HFIN.out.1,HFIN.out.2⟩
theorem ins_entries (base n i vb:Nat)(v:Value)(xs news:List Value)(w:World)(hown:w.ownsRow base 169 2 v n xs)(h1 : ∀u∈xs,u.oneCell'=true)(hn:n≤100000)(hi:i≤n)(hvb:w.heap[vb]? = some (.cells news.toArray 169 (0,0)))(hvg:v.ownBlock≠some vb)(hnl:news.length=2)(hn1 : ∀u∈news,u.oneCell'=true)(hb:base≤w.heap.size) :
    Calls Tryz.prog 216 #[v,.int .i64 i,.slice (some ⟨vb,0,none⟩) 1 1] w fun e w' => ∃v',e = .returned v'∧w'.ownsRow base 169 2 v' (n+1) (xs.take (i*2)++(news++xs.drop (i*2)))∧w.grownBy w' v.ownBlock∧(v'.ownBlock=v.ownBlock∨∀k,v'.ownBlock=some k→w.heap.size≤k):=by
  rcases (show i=n∨i<n by omega) with h | h
  · refine (ins_end_entries base n i vb v xs news w hown hn h hvb hnl hn1 hb).mono ?_
    rintro e w' ⟨v',he,ho,hg,hat⟩
    refine⟨v',he,?_,hg,hat⟩
    rw[List.take_of_length_le (by rw[hown.1,h];exact Nat.le_refl _),List.drop_of_length_le (by rw[hown.1,h];exact Nat.le_refl _),List.append_nil]
    exact ho
  · obtain⟨g,cap,rfl,hbg,_⟩:=hown.form (by omega)
    by_cases hc:cap<n+1
    · refine (ins_grow_entries base g n cap i vb xs news w hown h1 hn h hc hvb hnl hn1 hb).mono ?_
      rintro e w' ⟨v',he,ho,hg,hat⟩
      exact⟨v',he,ho,⟨hg.os,hg.tape,hg.output,hg.size,fun k hk _=>hg.block k hk (by simp)⟩,.inr hat⟩
    · refine (ins_shift_entries base g n cap i vb xs news w hown h1 hn h (by omega) hvb (fun e=>hvg (by rw[e];rfl)) hnl hn1 hb).mono ?_
      rintro e w' ⟨he,ho,hg⟩
      exact⟨_,he,ho,hg,.inl rfl⟩
theorem iinfo_txns:(Tryz.prog.info? 102).map (fun i=>(i.zero,i.size,i.bytes))=some (some (.agg #[.int .i64 0,.int .i64 0,.int .i64 0,.int .i64 0]),4,32):=by kernel_rfl
theorem isize_txns:(Tryz.prog.info? 102).map (·.size)=some 4:=by kernel_rfl
theorem isizeof_txns (w:World):(Go.sizeOf 102).run Tryz.prog w = .ok 4 w:=by kernel_rfl
theorem ione_txns (m:Nat) : ∀u∈(Builtin.zeroCells (.agg #[.int .i64 0,.int .i64 0,.int .i64 0,.int .i64 0]:Value).cells m).toList,u.oneCell'=true:=by
  intro u hu
  unfold Builtin.zeroCells at hu
  simp only[Array.toList_map,List.mem_map] at hu
  obtain⟨j,hj,rfl⟩:=hu
  have h:j % 4<4:=Nat.mod_lt _ (by decide)
  show ((#[.int .i64 0,.int .i64 0,.int .i64 0,.int .i64 0]:Array Value)[j % 4]!).oneCell'=true
  match j % 4,h with
  | 0,_=>rfl
  | 1,_=>rfl
  | 2,_=>rfl
  | 3,_=>rfl
theorem ins_end_txns (base n i vb:Nat)(v:Value)(xs news:List Value)(w:World)(hown:w.ownsRow base 102 4 v n xs)(hn:n≤100000)(hi:i=n)(hvb:w.heap[vb]? = some (.cells news.toArray 102 (0,0)))(hnl:news.length=4)(hn1 : ∀u∈news,u.oneCell'=true)(hb:base≤w.heap.size) :
    Calls Tryz.prog 162 #[v,.int .i64 i,.slice (some ⟨vb,0,none⟩) 1 1] w fun e w' => ∃v',e = .returned v'∧w'.ownsRow base 102 4 v' (n+1) (xs++news)∧w.grownBy w' v.ownBlock∧(v'.ownBlock=v.ownBlock∨∀k,v'.ownBlock=some k→w.heap.size≤k):=by
  obtain⟨i0,hi0,hzz⟩:=Option.map_eq_some_iff.1 iinfo_txns
  simp only[Prod.mk.injEq] at hzz
  obtain⟨hz0,hz1,hz2⟩:=hzz
  have HO:=Aside0.mk hown
  have HNW:=Aside0.mk (World.news_of_block hvb)
  have hncm : ∀A c,v = .slice A n c→n≤c∧c≤maxLen:=fun A c hv=>by
    rcases hown.2 with ⟨h1,h2⟩ | ⟨g',cap',cur,h1,_,_,h3,h4,_⟩
    · rw[h1] at hv;injection hv with _ e2 e3;exact⟨by omega,by unfold maxLen;omega⟩
    · rw[h1] at hv;injection hv with _ e2 e3;subst e3;exact⟨h3,h4⟩
  obtain⟨A,cap,hv,hA⟩:=ow_slice hown
  obtain⟨hnc,hcm⟩:=hncm A cap hv
  unfold maxLen at hcm
  subst hi
  have HW1:=Aside0.mk hn1
  have HNL:=Aside0.mk hnl
  clear hown hvb hncm hn1 hnl
  subst hv
  have hA2:A=none∨∃a,A=some a:=by cases A with
    | none=>exact .inl rfl
    | some a=>exact .inr ⟨a,rfl⟩
  rcases hA2 with rfl | ⟨ad,rfl⟩
  · obtain⟨h0,h1⟩:=hA rfl
    subst h0 h1
    clear hA
    go_enter Tryz.func162,Tryz.ntmps162
    go_wp2_with (at_builtin;refine wpList_append_lies _ (by rfl) (.tmp 23) (.tmp 24) 51 (by rfl) base 102 i0 (.agg #[.int .i64 0,.int .i64 0,.int .i64 0,.int .i64 0]) 4 32 Tryz.underlying51 hi0 hz0 hz1 hz2 rfl (by decide) (.slice none 0 0) 0 xs (by rfl) HO.out ⟨vb,0,none⟩ 1 1 news (by rfl) (by rw[HNL.out]) (by exact HNW.out) HW1.out (by decide) (by decide) (by decide) hb _ rfl ?_)
    intro g2 cap2 w3 hown hgr hor hlt3
    go_wp2_with fail
    go_ret
    exact⟨_,rfl,hown,hgr,by
      rcases hor with h | h
      · exact .inl h.symm
      · exact .inr fun k hk => by have : g2 = k := by simpa [Value.ownBlock] using hk
                                  omega⟩
  · obtain⟨ab,ao,asp⟩:=ad
    have h1:((i:Int) == (i:Int))=true:=by simp
    clear hA
    go_enter Tryz.func162,Tryz.ntmps162
    go_wp2_with (at_builtin;refine wpList_append_lies _ (by rfl) (.tmp 23) (.tmp 24) 51 (by rfl) base 102 i0 (.agg #[.int .i64 0,.int .i64 0,.int .i64 0,.int .i64 0]) 4 32 Tryz.underlying51 hi0 hz0 hz1 hz2 rfl (by decide) (.slice (some ⟨ab,ao,asp⟩) i cap) i xs (by rfl) HO.out ⟨vb,0,none⟩ 1 1 news (by rfl) (by rw[HNL.out]) (by exact HNW.out) HW1.out (by decide) (by unfold maxLen;omega) (by omega) hb _ rfl ?_;intro g2 cap2 w3 hown hgr hor hlt3)
    all_goals
      go_ret
      exact⟨.slice (some ⟨g2,0,none⟩) (i+1) cap2,by simp,hown,hgr,by
        rcases hor with h | h
        · exact .inl h.symm
        · exact .inr fun k hk => by have : g2 = k := by simpa [Value.ownBlock] using hk
                                    omega⟩
theorem ins_grow_txns (base g n cap i vb:Nat)(xs news:List Value)(w:World)(hown:w.ownsRow base 102 4 (.slice (some ⟨g,0,none⟩) n cap) n xs)(h1 : ∀u∈xs,u.oneCell'=true)(hn:n≤100000)(hi:i<n)(hcap:cap<n+1)(hvb:w.heap[vb]? = some (.cells news.toArray 102 (0,0)))(hnl:news.length=4)(hn1 : ∀u∈news,u.oneCell'=true)(hb:base≤w.heap.size) :
    Calls Tryz.prog 162 #[.slice (some ⟨g,0,none⟩) n cap,.int .i64 i,.slice (some ⟨vb,0,none⟩) 1 1] w fun e w' => ∃v',e = .returned v'∧w'.ownsRow base 102 4 v' (n+1) (xs.take (i*4)++(news++xs.drop (i*4)))∧w.grownBy w' none∧(∀k,v'.ownBlock=some k→w.heap.size≤k):=by
  obtain⟨i0,hi0,hzz⟩:=Option.map_eq_some_iff.1 iinfo_txns
  simp only[Prod.mk.injEq] at hzz
  obtain⟨hz0,hz1,hz2⟩:=hzz
  obtain⟨hcs,hfz,hrd,hnc,hcm⟩:=own_cells hown
  have hxl:=hown.1
  have hgl:g<w.heap.size:=by obtain⟨_,cg,hcg⟩:=ow_block hown rfl;exact heap_lt hcg
  unfold maxLen at hcm
  obtain⟨m,hm⟩ : ∃m:Nat,n+1 - i=m:=⟨_,rfl⟩
  -- append(s[:i], make(S, n+m-i)...)
  obtain⟨c2,W2,hr2,ho2,hg2⟩:=zeros_grow (P:=Tryz.prog) w base 51 3 51 102 i0 (.agg #[.int .i64 0,.int .i64 0,.int .i64 0,.int .i64 0]) 4 32 Tryz.underlying51 Tryz.underlying3 hi0 hz0 hz1 hz2 rfl (by decide) (by decide) g i cap (xs.take (i*4)) (own_cut hown (by omega)) .i64 m (by omega) (by omega) (ione_txns m) (by omega) hb
  obtain⟨ys,hys⟩ : ∃ys,xs.take (i*4)++(Builtin.zeroCells (.agg #[.int .i64 0,.int .i64 0,.int .i64 0,.int .i64 0]:Value).cells m).toList=ys:=⟨_,rfl⟩
  rw[hys] at ho2
  have him:i+m=n+1:=by omega
  rw[him] at ho2 hr2
  obtain⟨hcs2,hfz2,hrd2,hnc2,hcm2⟩:=own_cells ho2
  unfold maxLen at hcm2
  have hkeep : ∀k,k<w.heap.size→W2.heap[k]? = w.heap[k]? := fun k hk=>hg2.block k hk (by simp)
  have hnb:=World.news_of_block hvb
  have hvbl:=heap_lt hvb
  -- copy(s2[i:], v)
  obtain⟨o3,g3⟩:=own_setCells news (i*4) W2 ys ho2
  obtain⟨W3,hW3⟩ : ∃W3,W2.setCells w.heap.size (i*4) news=W3:=⟨_,rfl⟩
  rw[hW3] at o3 g3
  have hcp1 : ∀ty dc,(Builtin.copy_ #[51,51] ty #[.slice (some ⟨w.heap.size,i*4,none⟩) (n+1 - i) dc,.slice (some ⟨vb,0,none⟩) 1 1]).run Tryz.prog W2 = .ok (goInt 1) W3:=fun ty dc=>by
    rw[←hW3]
    exact copy_cells W2 _ _ ty 102 4 w.heap.size (i*4) (n+1 - i) dc ⟨vb,0,none⟩ 1 1 news Tryz.underlying51 isize_txns (by rw[hnl,show Nat.min 1 (n+1 - i)=1 from by simp only[Nat.min_def];split<;>omega]) 1 (by simp only[Nat.min_def];split<;>omega)
      (fun j v hj=>by
        have:=hnb j v hj
        rw[add_at] at this ⊢
        exact (World.cell?_of_block (w:=w) (a:=⟨vb,0+j,none⟩) (hkeep vb hvbl)).trans this)
      (fun j hj=>hcs2 _ (by rw[hnl] at hj;have:(i+1)*4≤c2*4:=Nat.mul_le_mul_right _ (by omega);omega)) (fun j hj=>hfz2 _) hn1
  obtain⟨hcs3,hfz3,_,_,_⟩:=own_cells o3
  -- copy(s2[i+m:], s[i:])
  obtain⟨o4,g4⟩:=own_setCells (xs.drop (i*4)) ((i+1)*4) W3.drew _ o3.drew
  have hdl:(xs.drop (i*4)).length=(n - i)*4:=by rw[List.length_drop,hxl];omega
  have hcp2 : ∀ty dc sc,(Builtin.copy_ #[51,51] ty #[.slice (some ⟨w.heap.size,(i+1)*4,none⟩) (n - i) dc,.slice (some ⟨g,i*4,none⟩) (n - i) sc]).run Tryz.prog W3.drew = .ok (goInt (n - i:Nat)) (W3.drew.setCells w.heap.size ((i+1)*4) (xs.drop (i*4))):=fun ty dc sc=>by
    exact copy_cells W3.drew _ _ ty 102 4 w.heap.size ((i+1)*4) (n - i) dc ⟨g,i*4,none⟩ (n - i) sc (xs.drop (i*4)) Tryz.underlying51 isize_txns (by rw[hdl,show Nat.min (n - i) (n - i)=n - i from by simp only[Nat.min_def];split<;>omega]) (n - i) (by simp only[Nat.min_def];split<;>omega)
      (fun j v hj=>by
        rw[Addr.add_lit]
        have hk3:W3.heap[g]? = w.heap[g]? := by rw[←hW3,setCells_other (by omega)];exact hkeep g hgl
        show W3.cell? _=_
        rw[World.cell?_of_block (w:=w) (a:=⟨g,i*4+j,none⟩) hk3]
        exact hrd _ v (by rw[List.getElem?_drop] at hj;exact hj))
      (fun j hj=>hcs3 _ (by rw[hdl] at hj;have:(i+1+(n - i))*4≤c2*4:=Nat.mul_le_mul_right _ (by omega);rw[Nat.add_mul] at this;omega)) (fun j hj=>hfz3 _) (fun v hv=>h1 v (List.mem_of_mem_drop hv))
  have HFIN:=Aside0.mk (show (W3.drew.setCells w.heap.size ((i+1)*4) (xs.drop (i*4))).ownsRow base 102 4 (.slice (some ⟨w.heap.size,0,none⟩) (n+1) c2) (n+1) (xs.take (i*4)++(news++xs.drop (i*4)))∧w.grownBy (W3.drew.setCells w.heap.size ((i+1)*4) (xs.drop (i*4))) none from by
    rw[←hys,ins_grow_eq xs _ news n i 4 hxl (by rw[Array.length_toList,size_zeroCells,hm];rfl) hnl hi] at o4
    refine⟨o4,⟨?_,?_,?_,?_,fun k hk _ => ?_⟩⟩
    · exact g4.os.trans (g3.os.trans hg2.os)
    · exact g4.tape.trans (g3.tape.trans hg2.tape)
    · exact g4.output.trans (g3.output.trans hg2.output)
    · exact Nat.le_trans hg2.size (Nat.le_trans g3.size g4.size)
    · rw[setCells_other (show k≠w.heap.size by omega)]
      show W3.heap[k]? = _
      rw[←hW3,setCells_other (show k≠w.heap.size by omega)]
      exact hkeep k hk)
  have hm2:IntKind.i64.wrap ((n:Int)+1)=(n:Int)+1:=IntWalk.i64_in _ (by omega)
  have hm3:IntKind.i64.wrap ((n:Int)+1 - (i:Int))=(m:Int):=by rw[IntWalk.i64_in _ (by omega)];omega
  have hm4:(n:Int)+1 - (i:Int)=(m:Int):=by omega
  have hne:((i:Int) == (n:Int))=false:=by simp;omega
  have hgt:decide ((n:Int)+1>(cap:Int))=true:=decide_eq_true (by omega)
  have hc0 : ¬cap=i:=by omega
  have hc1 : ¬c2=i:=by omega
  have hc3 : ¬c2=i+1:=by omega
  have hi5:i≤100000:=by omega
  have hin:i≤n:=by omega
  have hcm3:cap≤100000:=by omega
  have hm5:IntKind.i64.wrap ((i:Int)+1)=(i:Int)+1:=IntWalk.i64_in _ (by omega)
  have htn:((i:Int)+1).toNat=i+1:=by omega
  have hb1:(0:Int)≤(i:Int)+1:=by omega
  have hb5:(i:Int)+1≤(n:Int)+1:=by omega
  have HR2:=Aside0.mk hr2
  have HM4:=Aside0.mk hm4
  have HCP1:=Aside0.mk hcp1
  have HCP2:=Aside0.mk hcp2
  clear hown h1 hcs hfz hrd hxl hr2 ho2 hg2 hys him hcs2 hfz2 hrd2 hkeep hnb hvbl o3 g3 hW3 hcp1 hcs3 hfz3 o4 g4 hdl hcp2 hvb hnl hn1 hb hi0 hz0 hz1 hz2 hm hm4 hcm
  go_enter Tryz.func162,Tryz.ntmps162
  go_wp2_with (first
    | (at_builtin;refine Lib.wpList_append_run _ rfl (.tmp 34) (.tmp 39) 51 3 rfl (.slice (some ⟨g,0,none⟩) i cap) (.int .i64 m) (by rfl) (by first | rfl | (rw[←HM4.out];rfl)) _ _ HR2.out ?_)
    | (refine wpList_copy_run _ rfl (.tmp 43) (.tmp 44) 51 51 rfl (.slice (some ⟨w.heap.size,i*4,none⟩) (n+1 - i) (c2 - i)) _ (by rfl) (by rfl) (HCP1.out _ _) ?_))
  go_region_law (refine step_copy_run rfl (.tmp 50) (.tmp 53) 51 51 rfl (.slice (some ⟨w.heap.size,(i+1)*4,none⟩) (n - i) (c2 - (i+1))) (.slice (some ⟨g,i*4,none⟩) (n - i) (cap - i)) (by simp[Act.eval,Act.put]) (by simp[Act.eval,Act.put]) (HCP2.out 3 (c2 - (i+1)) (cap - i)) ?_)
  go_wp2_with fail
  go_ret
  exact⟨.slice (some ⟨w.heap.size,0,none⟩) (n+1) c2,by simp,HFIN.out.1,HFIN.out.2,fun k hk=>by
    have:w.heap.size=k:=by simpa [Value.ownBlock] using hk
    omega⟩
theorem ins_shift_txns (base g n cap i vb:Nat)(xs news:List Value)(w:World)(hown:w.ownsRow base 102 4 (.slice (some ⟨g,0,none⟩) n cap) n xs)(h1 : ∀u∈xs,u.oneCell'=true)(hn:n≤100000)(hi:i<n)(hcap:n+1≤cap)(hvb:w.heap[vb]? = some (.cells news.toArray 102 (0,0)))(hvg:vb≠g)(hnl:news.length=4)(hn1 : ∀u∈news,u.oneCell'=true)(hb:base≤w.heap.size) :
    Calls Tryz.prog 162 #[.slice (some ⟨g,0,none⟩) n cap,.int .i64 i,.slice (some ⟨vb,0,none⟩) 1 1] w fun e w'=>e = .returned (.slice (some ⟨g,0,none⟩) (n+1) cap)∧w'.ownsRow base 102 4 (.slice (some ⟨g,0,none⟩) (n+1) cap) (n+1) (xs.take (i*4)++(news++xs.drop (i*4)))∧w.grownBy w' (some g):=by
  obtain⟨hcs,hfz,hrd,hnc,hcm⟩:=own_cells hown
  have hxl:=hown.1
  unfold maxLen at hcm
  obtain⟨cg,hcg,hcgs,hcgt⟩ : ∃cg,w.heap[g]? = some (.cells cg 102 (0,0))∧cg.size=cap*4∧cg.toList.take (n*4)=xs:=by
    rcases hown.2 with ⟨h2,_⟩ | ⟨g',cap',cur,hv,hg,hh,hnc',hcm',hsz,htk⟩
    · cases h2
    · simp at hv
      obtain⟨rfl,rfl⟩:=hv
      exact⟨cur,hh,hsz,htk⟩
  -- the row, one element longer
  have hlong:w.ownsRow base 102 4 (.slice (some ⟨g,0,none⟩) (n+1) cap) (n+1) (cg.toList.take ((n+1)*4)):=by
    have hle:(n+1)*4≤cap*4:=Nat.mul_le_mul_right _ hcap
    refine⟨by rw[List.length_take,Array.length_toList,hcgs];omega,.inr ⟨g,cap,cg,rfl,(ow_block hown rfl).1,hcg,hcap,by unfold maxLen;omega,hcgs,rfl⟩⟩
  obtain⟨ys,hys⟩ : ∃ys,cg.toList.take ((n+1)*4)=ys:=⟨_,rfl⟩
  have hyl:ys.length=(n+1)*4:=by rw[←hys];exact hlong.1
  have hyx:ys.take (n*4)=xs:=by rw[←hys,List.take_take,Nat.min_eq_left (Nat.mul_le_mul_right _ (by omega))];exact hcgt
  rw[hys] at hlong
  have hnb:=World.news_of_block hvb
  have hdl:(xs.drop (i*4)).length=(n - i)*4:=by rw[List.length_drop,hxl];omega
  obtain⟨o1,g1⟩:=own_setCells (xs.drop (i*4)) ((i+1)*4) w.drew _ hlong.drew
  obtain⟨W1,hW1⟩ : ∃W1,w.drew.setCells g ((i+1)*4) (xs.drop (i*4))=W1:=⟨_,rfl⟩
  have hcp1 : ∀ty dc sc,(Builtin.copy_ #[51,51] ty #[.slice (some ⟨g,(i+1)*4,none⟩) (n - i) dc,.slice (some ⟨g,i*4,none⟩) (n+1 - i) sc]).run Tryz.prog w.drew = .ok (goInt (n - i:Nat)) W1:=fun ty dc sc=>by
    rw[←hW1]
    exact copy_cells w.drew _ _ ty 102 4 g ((i+1)*4) (n - i) dc ⟨g,i*4,none⟩ (n+1 - i) sc (xs.drop (i*4)) Tryz.underlying51 isize_txns (by rw[hdl,show Nat.min (n+1 - i) (n - i)=n - i from by simp only[Nat.min_def];split<;>omega]) (n - i) (by simp only[Nat.min_def];split<;>omega)
      (fun j v hj=>by rw[Addr.add_lit];exact hrd _ v (by rw[List.getElem?_drop] at hj;exact hj))
      (fun j hj=>hcs _ (by rw[hdl] at hj;have:(i+1+(n - i))*4≤cap*4:=Nat.mul_le_mul_right _ (by omega);rw[Nat.add_mul] at this;omega)) (fun j hj=>hfz _) (fun v hv=>h1 v (List.mem_of_mem_drop hv))
  rw[hW1] at o1 g1
  obtain⟨hcs1,hfz1,_,_,_⟩:=own_cells o1
  obtain⟨o2,g2⟩:=own_setCells news (i*4) W1 _ o1
  have hcp2 : ∀ty dc,(Builtin.copy_ #[51,51] ty #[.slice (some ⟨g,i*4,none⟩) (n+1 - i) dc,.slice (some ⟨vb,0,none⟩) 1 1]).run Tryz.prog W1 = .ok (goInt 1) (W1.setCells g (i*4) news):=fun ty dc=>by
    exact copy_cells W1 _ _ ty 102 4 g (i*4) (n+1 - i) dc ⟨vb,0,none⟩ 1 1 news Tryz.underlying51 isize_txns (by rw[hnl,show Nat.min 1 (n+1 - i)=1 from by simp only[Nat.min_def];split<;>omega]) 1 (by simp only[Nat.min_def];split<;>omega)
      (fun j v hj=>by
        have:=hnb j v hj
        rw[add_at] at this ⊢
        exact (World.cell?_of_block (w:=w) (a:=⟨vb,0+j,none⟩) (by rw[←hW1,setCells_other hvg];rfl)).trans this)
      (fun j hj=>hcs1 _ (by rw[hnl] at hj;have:(i+1)*4≤cap*4:=Nat.mul_le_mul_right _ (by omega);omega)) (fun j hj=>hfz1 _) hn1
  have HFIN:=Aside0.mk (show (W1.setCells g (i*4) news).ownsRow base 102 4 (.slice (some ⟨g,0,none⟩) (n+1) cap) (n+1) (xs.take (i*4)++(news++xs.drop (i*4)))∧w.grownBy (W1.setCells g (i*4) news) (some g) from by
    rw[ins_shift_eq xs ys news n i 4 hxl hyl hyx hnl hi] at o2
    exact⟨o2,⟨g2.os.trans g1.os,g2.tape.trans g1.tape,g2.output.trans g1.output,Nat.le_trans g1.size g2.size,fun k hk hkg=>(g2.block k (Nat.lt_of_lt_of_le hk g1.size) hkg).trans (g1.block k hk hkg)⟩⟩)
  have hov : ∀lb cb,(callFunc 207 #[.slice (some ⟨vb,0,none⟩) 1 1,.slice (some ⟨g,(i+1)*4,none⟩) lb cb]).run Tryz.prog w = .ok (.value (.bool false)) w:=fun lb cb=>by
    rw[run_callFunc_extern Tryz.func207 (by kernel_rfl) (by kernel_rfl) (by kernel_rfl) (e:=Extern.SlicesOverlaps.overlaps #[51,51] #[4]) (by kernel_rfl),
      Lib.run_overlaps_apart w 51 4 102 Tryz.underlying51 4 isizeof_txns ⟨vb,0,none⟩ ⟨g,(i+1)*4,none⟩ 1 1 lb cb hvg 102 102 4 (cap*4) (by simp[World.shape?,hvb,hnl]) (by simp[World.shape?,hcg,hcgs]) (by omega) (by simp[World.frozen?,hvb]) (by simp[World.frozen?,hvb])]
    rfl
  have hm2:IntKind.i64.wrap ((n:Int)+1)=(n:Int)+1:=IntWalk.i64_in _ (by omega)
  have hm5:IntKind.i64.wrap ((i:Int)+1)=(i:Int)+1:=IntWalk.i64_in _ (by omega)
  have htn:((i:Int)+1).toNat=i+1:=by omega
  have htn2:((n:Int)+1).toNat=n+1:=by omega
  have hne:((i:Int) == (n:Int))=false:=by simp;omega
  have hgt:decide ((n:Int)+1>(cap:Int))=false:=decide_eq_false (by omega)
  have hb1:(0:Int)≤(i:Int)+1:=by omega
  have hb3:(i:Int)≤(n:Int)+1:=by omega
  have hb5:(i:Int)+1≤(n:Int)+1:=by omega
  have hc0 : ¬cap=i:=by omega
  have hc1 : ¬cap=i+1:=by omega
  have hin:i≤n:=by omega
  have hin2:i≤n+1:=by omega
  have hin3:i+1≤n+1:=by omega
  have HCP1:=Aside0.mk hcp1
  have HCP2:=Aside0.mk hcp2
  clear hown h1 hcs hfz hrd hxl hcg hcgs hcgt hlong hys hyl hyx hnb hdl o1 g1 hW1 hcp1 hcs1 hfz1 o2 g2 hcp2 hvb hnl hn1 hb
  go_enter Tryz.func162,Tryz.ntmps162
  go_wp2_with (simp only[hov])
  go_region_law (refine step_copy_run rfl (.tmp 73) (.tmp 76) 51 51 rfl (.slice (some ⟨g,(i+1)*4,none⟩) (n - i) (cap - (i+1))) (.slice (some ⟨g,i*4,none⟩) (n+1 - i) (cap - i)) (by simp[Act.eval,Act.put]) (by simp[Act.eval,Act.put]) (HCP1.out 3 (cap - (i+1)) (cap - i)) ?_)
  go_wp2_with (refine wpList_copy_run _ rfl (.tmp 80) (.tmp 81) 51 51 rfl _ _ rfl rfl (HCP2.out _ _) ?_)
  go_ret
  exact⟨by simp,HFIN.out.1,HFIN.out.2⟩
theorem ins_txns (base n i vb:Nat)(v:Value)(xs news:List Value)(w:World)(hown:w.ownsRow base 102 4 v n xs)(h1 : ∀u∈xs,u.oneCell'=true)(hn:n≤100000)(hi:i≤n)(hvb:w.heap[vb]? = some (.cells news.toArray 102 (0,0)))(hvg:v.ownBlock≠some vb)(hnl:news.length=4)(hn1 : ∀u∈news,u.oneCell'=true)(hb:base≤w.heap.size) :
    Calls Tryz.prog 162 #[v,.int .i64 i,.slice (some ⟨vb,0,none⟩) 1 1] w fun e w' => ∃v',e = .returned v'∧w'.ownsRow base 102 4 v' (n+1) (xs.take (i*4)++(news++xs.drop (i*4)))∧w.grownBy w' v.ownBlock∧(v'.ownBlock=v.ownBlock∨∀k,v'.ownBlock=some k→w.heap.size≤k):=by
  rcases (show i=n∨i<n by omega) with h | h
  · refine (ins_end_txns base n i vb v xs news w hown hn h hvb hnl hn1 hb).mono ?_
    rintro e w' ⟨v',he,ho,hg,hat⟩
    refine⟨v',he,?_,hg,hat⟩
    rw[List.take_of_length_le (by rw[hown.1,h];exact Nat.le_refl _),List.drop_of_length_le (by rw[hown.1,h];exact Nat.le_refl _),List.append_nil]
    exact ho
  · obtain⟨g,cap,rfl,hbg,_⟩:=hown.form (by omega)
    by_cases hc:cap<n+1
    · refine (ins_grow_txns base g n cap i vb xs news w hown h1 hn h hc hvb hnl hn1 hb).mono ?_
      rintro e w' ⟨v',he,ho,hg,hat⟩
      exact⟨v',he,ho,⟨hg.os,hg.tape,hg.output,hg.size,fun k hk _=>hg.block k hk (by simp)⟩,.inr hat⟩
    · refine (ins_shift_txns base g n cap i vb xs news w hown h1 hn h (by omega) hvb (fun e=>hvg (by rw[e];rfl)) hnl hn1 hb).mono ?_
      rintro e w' ⟨he,ho,hg⟩
      exact⟨_,he,ho,hg,.inl rfl⟩
end Go.Proofs.YtaplpeoikebedaaGreatDoor.Ins2
namespace Go.Proofs.YtaplpeoikebedaaGreatDoor.Clone2
open Go.RowKit YtaplpeoikebedaaGreatDoorW.PrintWords YtaplpeoikebedaaGreatDoorW.PrintLast YtaplpeoikebedaaGreatDoorW.PrintMore
open See Mem
theorem info_txns:(Tryz.prog.info? 102).map (fun i=>(i.zero,i.size,i.bytes))=some (some (.agg #[.int .i64 0,.int .i64 0,.int .i64 0,.int .i64 0]),4,32):=by kernel_rfl
theorem clone_txns (v:Value)(n:Nat)(xs:List Value)(w:World)(h:Rd w 102 4 v n xs)(h1 : ∀u∈xs,u.oneCell'=true) :
    Calls Tryz.prog 139 #[v] w fun e w' => ∃v',e = .returned v'∧w'.ownsRow w.heap.size 102 4 v' n xs∧Below w.heap.size w w':=by
  obtain⟨i0,hi,hzz⟩:=Option.map_eq_some_iff.1 info_txns
  simp only[Prod.mk.injEq] at hzz
  obtain⟨hz0,hz1,hz2⟩:=hzz
  obtain⟨A,c,rfl,hA,hr⟩:=h.form
  have hlen:=h.1
  have hmax:=h.2.1
  cases A with
  | none=>
    obtain⟨rfl,rfl⟩:=hA rfl
    obtain rfl:xs=[]:=List.eq_nil_of_length_eq_zero (by simpa using hlen)
    have hnil:=fun W:World=>Lib.run_eql_slice_nil (P:=Tryz.prog) W 51 102 none 0 0 0 0 Tryz.underlying51
    clear hA hr hlen h h1 hmax
    go_enter Tryz.func139,Tryz.ntmps139
    go_wp2
    go_ret
    exact⟨_,rfl,World.ownsRow_nil _ _ _ _,Below.refl _ _⟩
  | some ad=>
    obtain⟨hcell,_,hlt⟩:=hr ad rfl
    have hnil:=fun W:World=>Lib.run_eql_slice_nil (P:=Tryz.prog) W 51 102 (some ad) n c 0 0 Tryz.underlying51
    have HC:=Aside0.mk hcell
    have H1:=Aside0.mk h1
    have HL:=Aside0.mk hlen
    have HM:=Aside0.mk hmax
    have HLT:=Aside0.mk hlt
    clear hcell h1 hlen hmax hlt hA hr h
    go_enter Tryz.func139,Tryz.ntmps139
    go_wp2_with (at_builtin;refine wpList_append_own_at _ (by rfl) _ _ 51 (by rfl) w.heap.size 102 i0 (.agg #[.int .i64 0,.int .i64 0,.int .i64 0,.int .i64 0]) 4 32 Tryz.underlying51 hi hz0 hz1 hz2 rfl (by decide) _ 0 [] (by rfl) ?own ad n c xs (by rfl) HL.out ?news H1.out ?h63 ?hby ?base ?_)
    case own=>exact⟨rfl,.inr ⟨w.heap.size,0,#[],rfl,Nat.le_refl _,(by show (w.heap.push _)[w.heap.size]? = _;exact Array.getElem?_push_size),by omega,by decide,rfl,rfl⟩⟩
    case news=>
      intro j u hu
      rw[World.cell?_alloc_lt _ _ _ (by have:=HLT.out;unfold Addr.add;split<;>simpa using this)]
      exact HC.out j u hu
    case h63=>have:=HM.out;unfold maxLen;omega
    case hby=>have:=HM.out;omega
    case base=>simp
    intro v' w1 hown hg _ hat
    have HB:=Aside0.mk (pw_below_grown (below_alloc (Below.refl w.heap.size w) (Obj.cells #[] 102)) _ (below_size (below_alloc (Below.refl _ _) _)) hg (by intro k hk;injection hk with hk;exact Nat.le_of_eq hk))
    have HO:=Aside0.mk hown
    clear hown hg hat
    obtain⟨A',c',rfl,hA'⟩:=ow_slice HO.out
    clear hA'
    go_wp2
    go_ret
    exact⟨_,rfl,by simpa using HO.out,HB.out⟩
end Go.Proofs.YtaplpeoikebedaaGreatDoor.Clone2
