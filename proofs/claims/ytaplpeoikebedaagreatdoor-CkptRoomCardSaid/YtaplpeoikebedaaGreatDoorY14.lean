/- Joined texts: Ins. No condition but what each says. -/
import Derived.Test.YtaplpeoikebedaaGreatDoorY12
import Derived.Test.YtaplpeoikebedaaGreatDoorY9
import Derived.Lib.Overlaps
import Derived.Laws.Externs
import Derived.Lib.AppendZeros
set_option maxHeartbeats 8000000
set_option maxRecDepth 100000
set_option linter.unusedVariables false
set_option linter.unusedSimpArgs false
namespace Go.Proofs.YtaplpeoikebedaaGreatDoor.Ins
open Go.RowKit YtaplpeoikebedaaGreatDoorW.PrintWords YtaplpeoikebedaaGreatDoorW.PrintLast YtaplpeoikebedaaGreatDoorW.PrintMore
open See Mem Clone Rw Del Fill
theorem zeros_grow {P:Program}(w:World)(base:Nat)(t ti ty e:TypeId)(i:TypeInfo)(z:Value)(size bytes:Nat)(ht:P.underlying t=some (.slice e)){k:IntKind}(hti:P.underlying ti=some (.int k))(hi:P.info? e=some i)(hz:i.zero=some z)
    (hsize:i.size=size) (hby:i.bytes=bytes) (hzs:z.cells.size=size) (hsz:0<size) (hb0:0<bytes)
    (g n cap:Nat) (xs:List Value) (hown:w.ownsRow base e size (.slice (some ⟨g,0,none⟩) n cap) n xs) (kx:IntKind) (m:Nat) (hm:0<m) (hcap:cap<n+m) (h1 : ∀u∈(Builtin.zeroCells z.cells m).toList,u.oneCell'=true)
    (hbytes:(n+m)*bytes≤140737488355328) (hbase:base≤w.heap.size) :
    ∃ c' w', (Builtin.append_ #[t, ti] ty #[.slice (some ⟨g, 0, none⟩) n cap, .int kx m]).run P w = .ok (.slice (some ⟨w.heap.size, 0, none⟩) (n + m) c') w' ∧
      w'.ownsRow base e size (.slice (some ⟨w.heap.size,0,none⟩) (n+m) c') (n+m) (xs++(Builtin.zeroCells z.cells m).toList)∧w.grownBy w' none:=by
  subst hsize
  subst hby
  have hle:n+m≤140737488355328:=Nat.le_trans (Nat.le_mul_of_pos_right _ hb0) hbytes
  have h63:n+m≤maxLen:=by simp only[maxLen];omega
  have hw:IntKind.i64.wrap (m:Int)=m:=by rw[IntKind.wrap_i64];omega
  have hneg : ¬((m:Int)<0):=by omega
  have hmb:m*i.bytes≤140737488355328:=Nat.le_trans (Nat.mul_le_mul_right _ (Nat.le_add_left m n)) hbytes
  have hbig : ¬(281474976710656<(m:Int)*(i.bytes:Int)):=by
    rw[←Int.natCast_mul]
    omega
  have hsn:i.size≠0:=by omega
  obtain⟨news,hnews⟩ : ∃news,news=(Builtin.zeroCells z.cells m).toList:=⟨_,rfl⟩
  rw[←hnews] at h1 ⊢
  have hl:news.length=m*i.size:=by rw[hnews,Array.length_toList,size_zeroCells,hzs]
  have hna:Builtin.zeroCells z.cells m=news.toArray:=by rw[hnews]
  have hlen:(xs++news).length=(n+m)*i.size:=by rw[List.length_append,hown.1,hl,Nat.add_mul]
  have hge:=grownCap_ge w (n+m) cap e
  have hcm:grownCap w (n+m) cap e≤maxLen:=grownCap_le_maxLen w (n+m) cap e h63
  have holds : ∀j u,xs[j]? = some u→w.cell? ((⟨g,0,none⟩:Addr).add j)=some u:=hown.cells (g:=g) rfl
  have hfo:(Builtin.firstCells i.size n (.slice (some ⟨g,0,none⟩) n cap)).run P w.drew = .ok xs.toArray w.drew:=run_firstCells_some (P:=P) w.drew i.size n _ n cap xs hown.1 (by simpa using holds)
  have hn : ¬(n+m≤cap):=by omega
  have h63' : ¬(9223372036854775807<((n:Int)+(m:Int))):=by omega
  have hfit:=growslice_fits hcap hbytes
  have h48' : ¬(281474976710656<Builtin.nextslicecap (n+m) cap*i.bytes):=by omega
  have hmz : ¬(m*i.size=0):=Nat.mul_ne_zero (by omega) hsn
  refine⟨grownCap w (n+m) cap e,w.drew.alloc (.cells (xs.toArray++news.toArray++Builtin.zeroCells z.cells (grownCap w (n+m) cap e - (n+m))) e),?_,⟨hlen,.inr ⟨w.heap.size,_,_,rfl,hbase,heap_alloc_new w.drew _,hge,hcm,?_,?_⟩⟩,⟨rfl,rfl,rfl,by simp,fun k hk _=>heap_alloc_old w.drew _ hk⟩⟩
  · simp[Builtin.append_,run_underlying ht,run_underlying hti,sizeOf,typeInfo,zeroValue,hi,hz,asInt,asIntOf,hw,hneg,hbig,hn,h63',h48',Question.forced,hfo,newRow,grownCap,hmz,hna]
    congr 2
    apply Array.ext'
    simp[List.append_assoc]
  · simp only[Array.size_append,List.size_toArray,size_zeroCells,hzs,hown.1,hl,←Nat.add_mul]
    congr 1
    omega
  · simp only[Array.toList_append,List.append_assoc]
    rw[←List.append_assoc,←hlen]
    exact List.take_left
theorem copy_cells {P:Program}(w:World)(dT sT ty elem:TypeId)(size:Nat)(b o dLen dCap:Nat)(a:Addr)(sLen sCap:Nat)(cs:List Value)
    (hu:P.underlying dT=some (.slice elem)) (hs:(P.info? elem).map (·.size)=some size) (hn:cs.length=Nat.min sLen dLen*size) (m:Nat) (hm:Nat.min sLen dLen=m)
    (hsrc : ∀j v,cs[j]? = some v→w.cell? (a.add j)=some v) (hc : ∀j,j<cs.length→(w.cell? ⟨b,o+j,none⟩).isSome=true) (hf : ∀j,j<cs.length→w.frozen? ⟨b,o+j,none⟩=false) (h1 : ∀v∈cs,v.oneCell'=true) :
    (Builtin.copy_ #[dT,sT] ty #[.slice (some ⟨b,o,none⟩) dLen dCap,.slice (some a) sLen sCap]).run P w = .ok (goInt m) (w.setCells b o cs):=by
  have hl:=run_loadCells_list (P:=P) w a cs hsrc
  have hst:=run_storeCells_cells (P:=P) b o cs 0 w (by simpa using hc) (by simpa using hf) h1
  subst hm
  cases hq:P.info? elem with
  | none=>simp[hq] at hs
  | some i=>
    have hi:i.size=size:=by simpa [hq] using hs
    simp[Builtin.copy_,run_underlying hu,Builtin.lenOf,Builtin.firstCells,sizeOf,typeInfo,hq,hi,←hn,hl,hst]
theorem wpList_copy_run {P:Program}(w:World){ops:Array Oper}{rest:List Oper}{o:Oper}{a:Act}{Q:Exit→Act→World→Prop}(hgd:o.guard=none)(d s:Operand)(t t':TypeId)
    (ho:o.op = .call { callee:=.builtin .copy,args:=#[d,s],argTypes:=#[t,t'] }) (v u:Value) (hd:a.eval d=v) (hs:a.eval s=u) {v':Value} {w':World}
    (hr:(Builtin.copy_ #[t,t'] o.type #[v,u]).run P w = .ok v' w') (h:wpList P ops Q rest (a.put o.dst v') w'):wpList P ops Q (o :: rest) a w:=
  wpList_plain hgd fun _ hK=>by
    unfold Oper.wp execOp
    simp only[ho,resolve,invoke,builtin,Sem.run_bind,Sem.run_pure,Result.andThen_ok,List.map_toArray,List.map_cons,List.map_nil,hd,hs,hr]
    exact hK _ _ h
theorem step_copy_run {P:Program}{ops:Array Oper}{o:Oper}{a:Act}{w:World}{K:Act→World→Prop}{Q:Exit→Act→World→Prop}{E:Prop}
    (hg:o.guard=none) (d x:Operand) (dT sT:TypeId) (hop:o.op=Op.call { callee:=Callee.builtin Builtin.copy,args:=#[d,x],argTypes:=#[dT,sT] })
    (v u:Value) (hd:a.eval d=v) (hx:a.eval x=u) {v':Value} {w':World} (hr:(Builtin.copy_ #[dT,sT] o.type #[v,u]).run P w = .ok v' w') (hK:K (a.put o.dst v') w') :
    if Region.wanted o (yielded ops a.tmps)=true then Oper.wp P o a w K Q else E:=by
  have hw:Region.wanted o (yielded ops a.tmps)=true:=by simp[Region.wanted,hg]
  rw[if_pos hw]
  unfold Oper.wp
  simp[execOp,hop,resolve,invoke,builtin,hd,hx,hr,Result.andThen]
  exact hK
theorem ins_grow_gen (A zs ns D:List Value)(a s:Nat)(hA:A.length=a)(hz:zs.length=s+D.length)(hn:ns.length=s):setL (setL (A++zs) a ns) (a+s) D=A++(ns++D):=by
  subst hA hn
  rw[setL_eq ns _ _ (by rw[List.length_append,hz];omega),List.take_left,show (A++zs).drop (A.length+ns.length)=zs.drop ns.length from by rw[List.drop_append,List.drop_of_length_le (by omega)];simp]
  rw[setL_eq D _ _ (by simp only[List.length_append,List.length_drop,hz];omega)]
  rw[show (A++(ns++zs.drop ns.length)).take (A.length+ns.length)=A++ns from by rw[←List.append_assoc];exact List.take_left' (by rw[List.length_append])]
  rw[List.drop_of_length_le (by simp only[List.length_append,List.length_drop,hz];omega)]
  simp
theorem ins_grow_eq (xs zs ns:List Value)(n i size:Nat)(hx:xs.length=n*size)(hz:zs.length=(n+1 - i)*size)(hn:ns.length=size)(hi:i<n) :
    setL (setL (xs.take (i*size)++zs) (i*size) ns) ((i+1)*size) (xs.drop (i*size))=xs.take (i*size)++(ns++xs.drop (i*size)):=by
  have h1:i*size≤n*size:=Nat.mul_le_mul_right _ (by omega)
  have h2:(i+1)*size=i*size+size:=by rw[Nat.add_mul];omega
  have h3:(n+1 - i)*size+i*size=n*size+size:=by rw[←Nat.add_mul,show n+1 - i+i=n+1 from by omega,Nat.add_mul];omega
  rw[h2]
  exact ins_grow_gen _ _ _ _ _ _ (by rw[List.length_take,hx];omega) (by rw[hz,List.length_drop,hx];omega) hn
theorem ins_shift_eq (xs ys ns:List Value)(n i size:Nat)(hx:xs.length=n*size)(hy:ys.length=(n+1)*size)(hyx:ys.take (n*size)=xs)(hn:ns.length=size)(hi:i<n) :
    setL (setL ys ((i+1)*size) (xs.drop (i*size))) (i*size) ns=xs.take (i*size)++(ns++xs.drop (i*size)):=by
  have h1:i*size≤n*size:=Nat.mul_le_mul_right _ (by omega)
  have h2:(i+1)*size=i*size+size:=by rw[Nat.add_mul];omega
  have h3:(n+1)*size=n*size+size:=by rw[Nat.add_mul];omega
  have hd:(xs.drop (i*size)).length=n*size - i*size:=by rw[List.length_drop,hx]
  have hyi:ys.take (i*size)=xs.take (i*size):=by rw[←hyx,List.take_take,Nat.min_eq_left h1]
  rw[setL_eq (xs.drop (i*size)) _ _ (by rw[hd,hy];omega)]
  rw[setL_eq ns _ _ (by simp only[List.length_append,List.length_take,List.length_drop,hy,hd,hn];omega)]
  have e1:(List.take ((i+1)*size) ys++(List.drop (i*size) xs++List.drop ((i+1)*size+(List.drop (i*size) xs).length) ys)).take (i*size)=xs.take (i*size):=by
    rw[List.take_append_of_le_length (by rw[List.length_take,hy];omega),List.take_take,Nat.min_eq_left (by omega),hyi]
  have e2:(List.take ((i+1)*size) ys++(List.drop (i*size) xs++List.drop ((i+1)*size+(List.drop (i*size) xs).length) ys)).drop (i*size+ns.length)=xs.drop (i*size):=by
    have hl:(List.take ((i+1)*size) ys).length=(i+1)*size:=by rw[List.length_take,hy];omega
    rw[List.drop_append_of_le_length (by rw[hl];omega),List.drop_of_length_le (by rw[hl];omega),List.nil_append,List.drop_of_length_le (l:=ys) (by rw[hy,hd];omega),List.append_nil]
  rw[e1,e2]
theorem iinfo_dirties:(Tryz.prog.info? 288).map (fun i=>(i.zero,i.size,i.bytes))=some (some (.agg #[.int .i64 0,.int .i64 0]),2,16):=by kernel_rfl
theorem isize_dirties:(Tryz.prog.info? 288).map (·.size)=some 2:=by kernel_rfl
theorem isizeof_dirties (w:World):(Go.sizeOf 288).run Tryz.prog w = .ok 2 w:=by kernel_rfl
theorem ione_dirties (m:Nat) : ∀u∈(Builtin.zeroCells (.agg #[.int .i64 0,.int .i64 0]:Value).cells m).toList,u.oneCell'=true:=by
  intro u hu
  unfold Builtin.zeroCells at hu
  simp only[Array.toList_map,List.mem_map] at hu
  obtain⟨j,hj,rfl⟩:=hu
  have h:j % 2<2:=Nat.mod_lt _ (by decide)
  show ((#[.int .i64 0,.int .i64 0]:Array Value)[j % 2]!).oneCell'=true
  match j % 2,h with
  | 0,_=>rfl
  | 1,_=>rfl
theorem ins_end_dirties (base n i vb:Nat)(v:Value)(xs news:List Value)(w:World)(hown:w.ownsRow base 288 2 v n xs)(hn:n≤100000)(hi:i=n)(hvb:w.heap[vb]? = some (.cells news.toArray 288 (0,0)))(hnl:news.length=2)(hn1 : ∀u∈news,u.oneCell'=true)(hb:base≤w.heap.size) :
    Calls Tryz.prog 217 #[v,.int .i64 i,.slice (some ⟨vb,0,none⟩) 1 1] w fun e w' => ∃v',e = .returned v'∧w'.ownsRow base 288 2 v' (n+1) (xs++news)∧w.grownBy w' v.ownBlock∧(v'.ownBlock=v.ownBlock∨∀k,v'.ownBlock=some k→w.heap.size≤k):=by
  obtain⟨i0,hi0,hzz⟩:=Option.map_eq_some_iff.1 iinfo_dirties
  simp only[Prod.mk.injEq] at hzz
  obtain⟨hz0,hz1,hz2⟩:=hzz
  have HO:=Aside0.mk hown
  have HNW:=Aside0.mk (World.news_of_block hvb)
  have hncm : ∀A c,v = .slice A n c→n≤c∧c≤maxLen:=fun A c hv=>by
    rcases hown.2 with ⟨h1,h2⟩ | ⟨g',cap',cur,h1,_,_,h3,h4,_⟩
    · rw[h1] at hv;injection hv with _ e2 e3;exact⟨by omega,by unfold maxLen;omega⟩
    · rw[h1] at hv;injection hv with _ e2 e3;subst e3;exact⟨h3,h4⟩
  obtain⟨A,cap,hv,hA⟩:=ow_slice hown
  obtain⟨hnc,hcm⟩:=hncm A cap hv
  unfold maxLen at hcm
  subst hi
  have HW1:=Aside0.mk hn1
  have HNL:=Aside0.mk hnl
  clear hown hvb hncm hn1 hnl
  subst hv
  have hA2:A=none∨∃a,A=some a:=by cases A with
    | none=>exact .inl rfl
    | some a=>exact .inr ⟨a,rfl⟩
  rcases hA2 with rfl | ⟨ad,rfl⟩
  · obtain⟨h0,h1⟩:=hA rfl
    subst h0 h1
    clear hA
    go_enter Tryz.func217,Tryz.ntmps217
    go_wp2_with (at_builtin;refine wpList_append_lies _ (by rfl) (.tmp 23) (.tmp 24) 158 (by rfl) base 288 i0 (.agg #[.int .i64 0,.int .i64 0]) 2 16 Tryz.underlying158 hi0 hz0 hz1 hz2 rfl (by decide) (.slice none 0 0) 0 xs (by rfl) HO.out ⟨vb,0,none⟩ 1 1 news (by rfl) (by rw[HNL.out]) (by exact HNW.out) HW1.out (by decide) (by decide) (by decide) hb _ rfl ?_)
    intro g2 cap2 w3 hown hgr hor hlt3
    go_wp2_with fail
    go_ret
    exact⟨_,rfl,hown,hgr,by
      rcases hor with h | h
      · exact .inl h.symm
      · exact .inr fun k hk => by have : g2 = k := by simpa [Value.ownBlock] using hk
                                  omega⟩
  · obtain⟨ab,ao,asp⟩:=ad
    have h1:((i:Int) == (i:Int))=true:=by simp
    clear hA
    go_enter Tryz.func217,Tryz.ntmps217
    go_wp2_with (at_builtin;refine wpList_append_lies _ (by rfl) (.tmp 23) (.tmp 24) 158 (by rfl) base 288 i0 (.agg #[.int .i64 0,.int .i64 0]) 2 16 Tryz.underlying158 hi0 hz0 hz1 hz2 rfl (by decide) (.slice (some ⟨ab,ao,asp⟩) i cap) i xs (by rfl) HO.out ⟨vb,0,none⟩ 1 1 news (by rfl) (by rw[HNL.out]) (by exact HNW.out) HW1.out (by decide) (by unfold maxLen;omega) (by omega) hb _ rfl ?_;intro g2 cap2 w3 hown hgr hor hlt3)
    all_goals
      go_ret
      exact⟨.slice (some ⟨g2,0,none⟩) (i+1) cap2,by simp,hown,hgr,by
        rcases hor with h | h
        · exact .inl h.symm
        · exact .inr fun k hk => by have : g2 = k := by simpa [Value.ownBlock] using hk
                                    omega⟩
theorem ins_grow_dirties (base g n cap i vb:Nat)(xs news:List Value)(w:World)(hown:w.ownsRow base 288 2 (.slice (some ⟨g,0,none⟩) n cap) n xs)(h1 : ∀u∈xs,u.oneCell'=true)(hn:n≤100000)(hi:i<n)(hcap:cap<n+1)(hvb:w.heap[vb]? = some (.cells news.toArray 288 (0,0)))(hnl:news.length=2)(hn1 : ∀u∈news,u.oneCell'=true)(hb:base≤w.heap.size) :
    Calls Tryz.prog 217 #[.slice (some ⟨g,0,none⟩) n cap,.int .i64 i,.slice (some ⟨vb,0,none⟩) 1 1] w fun e w' => ∃v',e = .returned v'∧w'.ownsRow base 288 2 v' (n+1) (xs.take (i*2)++(news++xs.drop (i*2)))∧w.grownBy w' none∧(∀k,v'.ownBlock=some k→w.heap.size≤k):=by
  obtain⟨i0,hi0,hzz⟩:=Option.map_eq_some_iff.1 iinfo_dirties
  simp only[Prod.mk.injEq] at hzz
  obtain⟨hz0,hz1,hz2⟩:=hzz
  obtain⟨hcs,hfz,hrd,hnc,hcm⟩:=own_cells hown
  have hxl:=hown.1
  have hgl:g<w.heap.size:=by obtain⟨_,cg,hcg⟩:=ow_block hown rfl;exact heap_lt hcg
  unfold maxLen at hcm
  obtain⟨m,hm⟩ : ∃m:Nat,n+1 - i=m:=⟨_,rfl⟩
  -- append(s[:i], make(S, n+m-i)...)
  obtain⟨c2,W2,hr2,ho2,hg2⟩:=zeros_grow (P:=Tryz.prog) w base 158 3 158 288 i0 (.agg #[.int .i64 0,.int .i64 0]) 2 16 Tryz.underlying158 Tryz.underlying3 hi0 hz0 hz1 hz2 rfl (by decide) (by decide) g i cap (xs.take (i*2)) (own_cut hown (by omega)) .i64 m (by omega) (by omega) (ione_dirties m) (by omega) hb
  obtain⟨ys,hys⟩ : ∃ys,xs.take (i*2)++(Builtin.zeroCells (.agg #[.int .i64 0,.int .i64 0]:Value).cells m).toList=ys:=⟨_,rfl⟩
  rw[hys] at ho2
  have him:i+m=n+1:=by omega
  rw[him] at ho2 hr2
  obtain⟨hcs2,hfz2,hrd2,hnc2,hcm2⟩:=own_cells ho2
  unfold maxLen at hcm2
  have hkeep : ∀k,k<w.heap.size→W2.heap[k]? = w.heap[k]? := fun k hk=>hg2.block k hk (by simp)
  have hnb:=World.news_of_block hvb
  have hvbl:=heap_lt hvb
  -- copy(s2[i:], v)
  obtain⟨o3,g3⟩:=own_setCells news (i*2) W2 ys ho2
  obtain⟨W3,hW3⟩ : ∃W3,W2.setCells w.heap.size (i*2) news=W3:=⟨_,rfl⟩
  rw[hW3] at o3 g3
  have hcp1 : ∀ty dc,(Builtin.copy_ #[158,158] ty #[.slice (some ⟨w.heap.size,i*2,none⟩) (n+1 - i) dc,.slice (some ⟨vb,0,none⟩) 1 1]).run Tryz.prog W2 = .ok (goInt 1) W3:=fun ty dc=>by
    rw[←hW3]
    exact copy_cells W2 _ _ ty 288 2 w.heap.size (i*2) (n+1 - i) dc ⟨vb,0,none⟩ 1 1 news Tryz.underlying158 isize_dirties (by rw[hnl,show Nat.min 1 (n+1 - i)=1 from by simp only[Nat.min_def];split<;>omega]) 1 (by simp only[Nat.min_def];split<;>omega)
      (fun j v hj=>by
        have:=hnb j v hj
        rw[add_at] at this ⊢
        exact (World.cell?_of_block (w:=w) (a:=⟨vb,0+j,none⟩) (hkeep vb hvbl)).trans this)
      (fun j hj=>hcs2 _ (by rw[hnl] at hj;have:(i+1)*2≤c2*2:=Nat.mul_le_mul_right _ (by omega);omega)) (fun j hj=>hfz2 _) hn1
  obtain⟨hcs3,hfz3,_,_,_⟩:=own_cells o3
  -- copy(s2[i+m:], s[i:])
  obtain⟨o4,g4⟩:=own_setCells (xs.drop (i*2)) ((i+1)*2) W3.drew _ o3.drew
  have hdl:(xs.drop (i*2)).length=(n - i)*2:=by rw[List.length_drop,hxl];omega
  have hcp2 : ∀ty dc sc,(Builtin.copy_ #[158,158] ty #[.slice (some ⟨w.heap.size,(i+1)*2,none⟩) (n - i) dc,.slice (some ⟨g,i*2,none⟩) (n - i) sc]).run Tryz.prog W3.drew = .ok (goInt (n - i:Nat)) (W3.drew.setCells w.heap.size ((i+1)*2) (xs.drop (i*2))):=fun ty dc sc=>by
    exact copy_cells W3.drew _ _ ty 288 2 w.heap.size ((i+1)*2) (n - i) dc ⟨g,i*2,none⟩ (n - i) sc (xs.drop (i*2)) Tryz.underlying158 isize_dirties (by rw[hdl,show Nat.min (n - i) (n - i)=n - i from by simp only[Nat.min_def];split<;>omega]) (n - i) (by simp only[Nat.min_def];split<;>omega)
      (fun j v hj=>by
        rw[Addr.add_lit]
        have hk3:W3.heap[g]? = w.heap[g]? := by rw[←hW3,setCells_other (by omega)];exact hkeep g hgl
        show W3.cell? _=_
        rw[World.cell?_of_block (w:=w) (a:=⟨g,i*2+j,none⟩) hk3]
        exact hrd _ v (by rw[List.getElem?_drop] at hj;exact hj))
      (fun j hj=>hcs3 _ (by rw[hdl] at hj;have:(i+1+(n - i))*2≤c2*2:=Nat.mul_le_mul_right _ (by omega);rw[Nat.add_mul] at this;omega)) (fun j hj=>hfz3 _) (fun v hv=>h1 v (List.mem_of_mem_drop hv))
  have HFIN:=Aside0.mk (show (W3.drew.setCells w.heap.size ((i+1)*2) (xs.drop (i*2))).ownsRow base 288 2 (.slice (some ⟨w.heap.size,0,none⟩) (n+1) c2) (n+1) (xs.take (i*2)++(news++xs.drop (i*2)))∧w.grownBy (W3.drew.setCells w.heap.size ((i+1)*2) (xs.drop (i*2))) none from by
    rw[←hys,ins_grow_eq xs _ news n i 2 hxl (by rw[Array.length_toList,size_zeroCells,hm];rfl) hnl hi] at o4
    refine⟨o4,⟨?_,?_,?_,?_,fun k hk _ => ?_⟩⟩
    · exact g4.os.trans (g3.os.trans hg2.os)
    · exact g4.tape.trans (g3.tape.trans hg2.tape)
    · exact g4.output.trans (g3.output.trans hg2.output)
    · exact Nat.le_trans hg2.size (Nat.le_trans g3.size g4.size)
    · rw[setCells_other (show k≠w.heap.size by omega)]
      show W3.heap[k]? = _
      rw[←hW3,setCells_other (show k≠w.heap.size by omega)]
      exact hkeep k hk)
  have hm2:IntKind.i64.wrap ((n:Int)+1)=(n:Int)+1:=IntWalk.i64_in _ (by omega)
  have hm3:IntKind.i64.wrap ((n:Int)+1 - (i:Int))=(m:Int):=by rw[IntWalk.i64_in _ (by omega)];omega
  have hm4:(n:Int)+1 - (i:Int)=(m:Int):=by omega
  have hne:((i:Int) == (n:Int))=false:=by simp;omega
  have hgt:decide ((n:Int)+1>(cap:Int))=true:=decide_eq_true (by omega)
  have hc0 : ¬cap=i:=by omega
  have hc1 : ¬c2=i:=by omega
  have hc3 : ¬c2=i+1:=by omega
  have hi5:i≤100000:=by omega
  have hin:i≤n:=by omega
  have hcm3:cap≤100000:=by omega
  have hm5:IntKind.i64.wrap ((i:Int)+1)=(i:Int)+1:=IntWalk.i64_in _ (by omega)
  have htn:((i:Int)+1).toNat=i+1:=by omega
  have hb1:(0:Int)≤(i:Int)+1:=by omega
  have hb5:(i:Int)+1≤(n:Int)+1:=by omega
  have HR2:=Aside0.mk hr2
  have HM4:=Aside0.mk hm4
  have HCP1:=Aside0.mk hcp1
  have HCP2:=Aside0.mk hcp2
  clear hown h1 hcs hfz hrd hxl hr2 ho2 hg2 hys him hcs2 hfz2 hrd2 hkeep hnb hvbl o3 g3 hW3 hcp1 hcs3 hfz3 o4 g4 hdl hcp2 hvb hnl hn1 hb hi0 hz0 hz1 hz2 hm hm4 hcm
  go_enter Tryz.func217,Tryz.ntmps217
  go_wp2_with (first
    | (at_builtin;refine Lib.wpList_append_run _ rfl (.tmp 34) (.tmp 39) 158 3 rfl (.slice (some ⟨g,0,none⟩) i cap) (.int .i64 m) (by rfl) (by first | rfl | (rw[←HM4.out];rfl)) _ _ HR2.out ?_)
    | (refine wpList_copy_run _ rfl (.tmp 43) (.tmp 44) 158 158 rfl (.slice (some ⟨w.heap.size,i*2,none⟩) (n+1 - i) (c2 - i)) _ (by rfl) (by rfl) (HCP1.out _ _) ?_))
  go_region_law (refine step_copy_run rfl (.tmp 50) (.tmp 53) 158 158 rfl (.slice (some ⟨w.heap.size,(i+1)*2,none⟩) (n - i) (c2 - (i+1))) (.slice (some ⟨g,i*2,none⟩) (n - i) (cap - i)) (by simp[Act.eval,Act.put]) (by simp[Act.eval,Act.put]) (HCP2.out 3 (c2 - (i+1)) (cap - i)) ?_)
  go_wp2_with fail
  go_ret
  exact⟨.slice (some ⟨w.heap.size,0,none⟩) (n+1) c2,by simp,HFIN.out.1,HFIN.out.2,fun k hk=>by
    have:w.heap.size=k:=by simpa [Value.ownBlock] using hk
    omega⟩
theorem ins_shift_dirties (base g n cap i vb:Nat)(xs news:List Value)(w:World)(hown:w.ownsRow base 288 2 (.slice (some ⟨g,0,none⟩) n cap) n xs)(h1 : ∀u∈xs,u.oneCell'=true)(hn:n≤100000)(hi:i<n)(hcap:n+1≤cap)(hvb:w.heap[vb]? = some (.cells news.toArray 288 (0,0)))(hvg:vb≠g)(hnl:news.length=2)(hn1 : ∀u∈news,u.oneCell'=true)(hb:base≤w.heap.size) :
    Calls Tryz.prog 217 #[.slice (some ⟨g,0,none⟩) n cap,.int .i64 i,.slice (some ⟨vb,0,none⟩) 1 1] w fun e w'=>e = .returned (.slice (some ⟨g,0,none⟩) (n+1) cap)∧w'.ownsRow base 288 2 (.slice (some ⟨g,0,none⟩) (n+1) cap) (n+1) (xs.take (i*2)++(news++xs.drop (i*2)))∧w.grownBy w' (some g):=by
  obtain⟨hcs,hfz,hrd,hnc,hcm⟩:=own_cells hown
  have hxl:=hown.1
  unfold maxLen at hcm
  obtain⟨cg,hcg,hcgs,hcgt⟩ : ∃cg,w.heap[g]? = some (.cells cg 288 (0,0))∧cg.size=cap*2∧cg.toList.take (n*2)=xs:=by
    rcases hown.2 with ⟨h2,_⟩ | ⟨g',cap',cur,hv,hg,hh,hnc',hcm',hsz,htk⟩
    · cases h2
    · simp at hv
      obtain⟨rfl,rfl⟩:=hv
      exact⟨cur,hh,hsz,htk⟩
  -- the row, one element longer
  have hlong:w.ownsRow base 288 2 (.slice (some ⟨g,0,none⟩) (n+1) cap) (n+1) (cg.toList.take ((n+1)*2)):=by
    have hle:(n+1)*2≤cap*2:=Nat.mul_le_mul_right _ hcap
    refine⟨by rw[List.length_take,Array.length_toList,hcgs];omega,.inr ⟨g,cap,cg,rfl,(ow_block hown rfl).1,hcg,hcap,by unfold maxLen;omega,hcgs,rfl⟩⟩
  obtain⟨ys,hys⟩ : ∃ys,cg.toList.take ((n+1)*2)=ys:=⟨_,rfl⟩
  have hyl:ys.length=(n+1)*2:=by rw[←hys];exact hlong.1
  have hyx:ys.take (n*2)=xs:=by rw[←hys,List.take_take,Nat.min_eq_left (Nat.mul_le_mul_right _ (by omega))];exact hcgt
  rw[hys] at hlong
  have hnb:=World.news_of_block hvb
  have hdl:(xs.drop (i*2)).length=(n - i)*2:=by rw[List.length_drop,hxl];omega
  obtain⟨o1,g1⟩:=own_setCells (xs.drop (i*2)) ((i+1)*2) w.drew _ hlong.drew
  obtain⟨W1,hW1⟩ : ∃W1,w.drew.setCells g ((i+1)*2) (xs.drop (i*2))=W1:=⟨_,rfl⟩
  have hcp1 : ∀ty dc sc,(Builtin.copy_ #[158,158] ty #[.slice (some ⟨g,(i+1)*2,none⟩) (n - i) dc,.slice (some ⟨g,i*2,none⟩) (n+1 - i) sc]).run Tryz.prog w.drew = .ok (goInt (n - i:Nat)) W1:=fun ty dc sc=>by
    rw[←hW1]
    exact copy_cells w.drew _ _ ty 288 2 g ((i+1)*2) (n - i) dc ⟨g,i*2,none⟩ (n+1 - i) sc (xs.drop (i*2)) Tryz.underlying158 isize_dirties (by rw[hdl,show Nat.min (n+1 - i) (n - i)=n - i from by simp only[Nat.min_def];split<;>omega]) (n - i) (by simp only[Nat.min_def];split<;>omega)
      (fun j v hj=>by rw[Addr.add_lit];exact hrd _ v (by rw[List.getElem?_drop] at hj;exact hj))
      (fun j hj=>hcs _ (by rw[hdl] at hj;have:(i+1+(n - i))*2≤cap*2:=Nat.mul_le_mul_right _ (by omega);rw[Nat.add_mul] at this;omega)) (fun j hj=>hfz _) (fun v hv=>h1 v (List.mem_of_mem_drop hv))
  rw[hW1] at o1 g1
  obtain⟨hcs1,hfz1,_,_,_⟩:=own_cells o1
  obtain⟨o2,g2⟩:=own_setCells news (i*2) W1 _ o1
  have hcp2 : ∀ty dc,(Builtin.copy_ #[158,158] ty #[.slice (some ⟨g,i*2,none⟩) (n+1 - i) dc,.slice (some ⟨vb,0,none⟩) 1 1]).run Tryz.prog W1 = .ok (goInt 1) (W1.setCells g (i*2) news):=fun ty dc=>by
    exact copy_cells W1 _ _ ty 288 2 g (i*2) (n+1 - i) dc ⟨vb,0,none⟩ 1 1 news Tryz.underlying158 isize_dirties (by rw[hnl,show Nat.min 1 (n+1 - i)=1 from by simp only[Nat.min_def];split<;>omega]) 1 (by simp only[Nat.min_def];split<;>omega)
      (fun j v hj=>by
        have:=hnb j v hj
        rw[add_at] at this ⊢
        exact (World.cell?_of_block (w:=w) (a:=⟨vb,0+j,none⟩) (by rw[←hW1,setCells_other hvg];rfl)).trans this)
      (fun j hj=>hcs1 _ (by rw[hnl] at hj;have:(i+1)*2≤cap*2:=Nat.mul_le_mul_right _ (by omega);omega)) (fun j hj=>hfz1 _) hn1
  have HFIN:=Aside0.mk (show (W1.setCells g (i*2) news).ownsRow base 288 2 (.slice (some ⟨g,0,none⟩) (n+1) cap) (n+1) (xs.take (i*2)++(news++xs.drop (i*2)))∧w.grownBy (W1.setCells g (i*2) news) (some g) from by
    rw[ins_shift_eq xs ys news n i 2 hxl hyl hyx hnl hi] at o2
    exact⟨o2,⟨g2.os.trans g1.os,g2.tape.trans g1.tape,g2.output.trans g1.output,Nat.le_trans g1.size g2.size,fun k hk hkg=>(g2.block k (Nat.lt_of_lt_of_le hk g1.size) hkg).trans (g1.block k hk hkg)⟩⟩)
  have hov : ∀lb cb,(callFunc 236 #[.slice (some ⟨vb,0,none⟩) 1 1,.slice (some ⟨g,(i+1)*2,none⟩) lb cb]).run Tryz.prog w = .ok (.value (.bool false)) w:=fun lb cb=>by
    rw[run_callFunc_extern Tryz.func236 (by kernel_rfl) (by kernel_rfl) (by kernel_rfl) (e:=Extern.SlicesOverlaps.overlaps #[158,158] #[4]) (by kernel_rfl),
      Lib.run_overlaps_apart w 158 4 288 Tryz.underlying158 2 isizeof_dirties ⟨vb,0,none⟩ ⟨g,(i+1)*2,none⟩ 1 1 lb cb hvg 288 288 2 (cap*2) (by simp[World.shape?,hvb,hnl]) (by simp[World.shape?,hcg,hcgs]) (by omega) (by simp[World.frozen?,hvb]) (by simp[World.frozen?,hvb])]
    rfl
  have hm2:IntKind.i64.wrap ((n:Int)+1)=(n:Int)+1:=IntWalk.i64_in _ (by omega)
  have hm5:IntKind.i64.wrap ((i:Int)+1)=(i:Int)+1:=IntWalk.i64_in _ (by omega)
  have htn:((i:Int)+1).toNat=i+1:=by omega
  have htn2:((n:Int)+1).toNat=n+1:=by omega
  have hne:((i:Int) == (n:Int))=false:=by simp;omega
  have hgt:decide ((n:Int)+1>(cap:Int))=false:=decide_eq_false (by omega)
  have hb1:(0:Int)≤(i:Int)+1:=by omega
  have hb3:(i:Int)≤(n:Int)+1:=by omega
  have hb5:(i:Int)+1≤(n:Int)+1:=by omega
  have hc0 : ¬cap=i:=by omega
  have hc1 : ¬cap=i+1:=by omega
  have hin:i≤n:=by omega
  have hin2:i≤n+1:=by omega
  have hin3:i+1≤n+1:=by omega
  have HCP1:=Aside0.mk hcp1
  have HCP2:=Aside0.mk hcp2
  clear hown h1 hcs hfz hrd hxl hcg hcgs hcgt hlong hys hyl hyx hnb hdl o1 g1 hW1 hcp1 hcs1 hfz1 o2 g2 hcp2 hvb hnl hn1 hb
  go_enter Tryz.func217,Tryz.ntmps217
  go_wp2_with (simp only[hov])
  go_region_law (refine step_copy_run rfl (.tmp 73) (.tmp 76) 158 158 rfl (.slice (some ⟨g,(i+1)*2,none⟩) (n - i) (cap - (i+1))) (.slice (some ⟨g,i*2,none⟩) (n+1 - i) (cap - i)) (by simp[Act.eval,Act.put]) (by simp[Act.eval,Act.put]) (HCP1.out 3 (cap - (i+1)) (cap - i)) ?_)
  go_wp2_with (refine wpList_copy_run _ rfl (.tmp 80) (.tmp 81) 158 158 rfl _ _ rfl rfl (HCP2.out _ _) ?_)
  go_ret
  exact⟨by simp,HFIN.out.1,HFIN.out.2⟩
theorem ins_dirties (base n i vb:Nat)(v:Value)(xs news:List Value)(w:World)(hown:w.ownsRow base 288 2 v n xs)(h1 : ∀u∈xs,u.oneCell'=true)(hn:n≤100000)(hi:i≤n)(hvb:w.heap[vb]? = some (.cells news.toArray 288 (0,0)))(hvg:v.ownBlock≠some vb)(hnl:news.length=2)(hn1 : ∀u∈news,u.oneCell'=true)(hb:base≤w.heap.size) :
    Calls Tryz.prog 217 #[v,.int .i64 i,.slice (some ⟨vb,0,none⟩) 1 1] w fun e w' => ∃v',e = .returned v'∧w'.ownsRow base 288 2 v' (n+1) (xs.take (i*2)++(news++xs.drop (i*2)))∧w.grownBy w' v.ownBlock∧(v'.ownBlock=v.ownBlock∨∀k,v'.ownBlock=some k→w.heap.size≤k):=by
  rcases (show i=n∨i<n by omega) with h | h
  · refine (ins_end_dirties base n i vb v xs news w hown hn h hvb hnl hn1 hb).mono ?_
    rintro e w' ⟨v',he,ho,hg,hat⟩
    refine⟨v',he,?_,hg,hat⟩
    rw[List.take_of_length_le (by rw[hown.1,h];exact Nat.le_refl _),List.drop_of_length_le (by rw[hown.1,h];exact Nat.le_refl _),List.append_nil]
    exact ho
  · obtain⟨g,cap,rfl,hbg,_⟩:=hown.form (by omega)
    by_cases hc:cap<n+1
    · refine (ins_grow_dirties base g n cap i vb xs news w hown h1 hn h hc hvb hnl hn1 hb).mono ?_
      rintro e w' ⟨v',he,ho,hg,hat⟩
      exact⟨v',he,ho,⟨hg.os,hg.tape,hg.output,hg.size,fun k hk _=>hg.block k hk (by simp)⟩,.inr hat⟩
    · refine (ins_shift_dirties base g n cap i vb xs news w hown h1 hn h (by omega) hvb (fun e=>hvg (by rw[e];rfl)) hnl hn1 hb).mono ?_
      rintro e w' ⟨he,ho,hg⟩
      exact⟨_,he,ho,hg,.inl rfl⟩
end Go.Proofs.YtaplpeoikebedaaGreatDoor.Ins
