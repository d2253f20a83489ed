/- Joined texts: AheadD, Pager, StoreD. No condition but what each says. -/
import Derived.Test.YtaplpeoikebedaaGreatDoorY18
set_option maxHeartbeats 8000000
set_option maxRecDepth 100000
set_option linter.unusedVariables false
set_option linter.unusedSimpArgs false
namespace Go.Proofs.YtaplpeoikebedaaGreatDoor.AheadD
open Go.RowKit See Mem Clone Go.Proofs.YtaplpeoikebedaaGreatDoor.Cell Page PageB PageR PageL Disk DiskN DiskW RecD Dirty Dirty2 SysD SysM Wal WalF GoodD PoolG PoolS FlushG Fresh DirtD PoolA TabL DiskL SortI
theorem find_once : ∀{l:List Fp} {f:Fp},(l.Pairwise fun a b=>a.n≠b.n)→f∈l→findP l f.n=some f
  | [],f,_,h=>by cases h
  | x :: xs,f,ho,h=>by
    rw[List.pairwise_cons] at ho
    unfold findP
    rw[List.find?_cons]
    rcases List.mem_cons.1 h with rfl | h
    · simp
    · have hne:x.n≠f.n:=ho.1 f h
      simp only[hne,decide_false]
      exact find_once ho.2 h
theorem find_some {l:List Fp}{n:Int}{f:Fp}(h:findP l n=some f):f∈l∧f.n=n:=by
  unfold findP at h
  exact⟨List.mem_of_find?_eq_some h,by simpa using List.find?_some h⟩
theorem find_none {l:List Fp}{n:Int}(h:findP l n=none) : ∀f∈l,f.n≠n:=by
  unfold findP at h
  rw[List.find?_eq_none] at h
  exact fun f hf e=>h f hf (decide_eq_true e)
theorem find_last {l:List Fp}{n:Int}{f:Fp}(h:findP l n=none)(hf:f.n=n):findP (l++[f]) n=some f:=by
  unfold findP at h ⊢
  rw[List.find?_append,h]
  simp[hf]
theorem has_add {ds:List (Int×Int)}{n f k:Int}(h:Rising ds):has (addT ds n f) k=false→has ds k=false:=fun e=>by
  rw[Bool.eq_false_iff] at e ⊢
  intro e2
  obtain⟨d,hd,e3⟩:=(has_iff _ k h).1 e2
  refine e ((has_iff _ k (addT_rising h n f)).2 ⟨d,?_,e3⟩)
  unfold addT
  split
  · exact hd
  · rw[←List.take_append_drop (pos ds n) ds] at hd
    rcases List.mem_append.1 hd with hd | hd
    · exact List.mem_append_left _ hd
    · exact List.mem_append_right _ (List.mem_cons_of_mem _ hd)
theorem has_add_self {ds:List (Int×Int)}{n f:Int}(h:Rising ds):has (addT ds n f) n=true:=by
  by_cases e:has ds n=true
  · unfold addT;rw[if_pos e];exact e
  · refine (has_iff _ n (addT_rising h n f)).2 ⟨(n,f),?_,rfl⟩
    unfold addT
    rw[if_neg e]
    exact List.mem_append_right _ List.mem_cons_self
theorem evictS_d (S:PSys)(hint:Int):(evictS S hint).1.d=S.d∨∃n,(evictS S hint).1.d=(flushS S n).1.d:=by
  unfold evictS
  split
  · exact .inl rfl
  · rename_i f _
    refine .inr ⟨f.n,?_⟩
    split
    · rename_i S' e hq;rw[hq]
    · rename_i S' hq;rw[hq]
theorem getS_d (S:PSys)(n hint:Int):(getS S n hint).1.d=S.d∨(getS S n hint).1.d=(evictS S hint).1.d:=by
  unfold getS
  split
  · exact .inl rfl
  · split
    · exact .inl rfl
    · by_cases hr:S.frames≤S.here.length
      · rw[if_pos hr]
        refine .inr ?_
        simp only
        split
        · rfl
        · split
          · rfl
          · split<;>rfl
      · rw[if_neg hr]
        refine .inl ?_
        simp only
        split
        · rfl
        · split<;>rfl
end Go.Proofs.YtaplpeoikebedaaGreatDoor.AheadD
namespace Go.Proofs.YtaplpeoikebedaaGreatDoor.Pager
open Go.RowKit See Mem Clone Go.Proofs.YtaplpeoikebedaaGreatDoor.Cell Page PageB PageR PageL Disk DiskN DiskW RecD Dirty Dirty2 SysD SysM Wal WalF GoodD PoolG PoolS FlushG Fresh DirtD PoolA TabL AheadD
abbrev Pg:=Int×List (Int×Int)
def cur (S:PSys)(k:Int):Pg:=match findP S.here k with
  | some f=>(f.lsn,f.es)
  | none=>(readPage (readV S.d k)).getD (0,[])
structure PgOk (N:Nat) (P:Int) (S:PSys):Prop where
  good:GoodD.Good S.d N
  pages:1≤P
  frames:1≤S.frames
  first:S.l.first=P+1
  size:S.l.first*6+S.l.l.length≤N*6
  done:S.l.done≤S.l.l.length
  few:(S.here.length:Int)≤S.frames
  once:S.here.Pairwise fun a b=>a.n≠b.n
  here : ∀f∈S.here,1≤f.n∧f.n≤P∧PageV f.lsn f.es
  rise:Rising S.t
  tab : ∀d∈S.t,(∃f∈S.here,f.n=d.1)∧1≤d.2∧d.2≤S.l.last
  disk : ∀k,1≤k→k≤P→∃g:Pg,readV S.d k=pageBytes g.1 g.2∧PageV g.1 g.2
  same : ∀f∈S.here,has S.t f.n=false→readV S.d f.n=pageBytes f.lsn f.es
structure PgTo (P:Int) (S S':PSys):Prop where
  cur : ∀k,1≤k→k≤P→cur S' k=cur S k
  frames:S'.frames=S.frames
  log : ∃dn,S'.l={ S.l with done:=dn }∧S.l.done≤dn
  tab : ∀d∈S'.t,d∈S.t
theorem PgTo.refl (P:Int)(S:PSys):PgTo P S S:=⟨fun _ _ _=>rfl,rfl,⟨S.l.done,rfl,Nat.le_refl _⟩,fun _ h=>h⟩
theorem PgTo.ll {P:Int}{S S':PSys}(h:PgTo P S S'):S'.l.l=S.l.l∧S'.l.base=S.l.base∧S'.l.blocks=S.l.blocks∧S'.l.epoch=S.l.epoch∧S'.l.first=S.l.first:=by
  obtain⟨dn,e,_⟩:=h.log
  rw[e]
  exact⟨rfl,rfl,rfl,rfl,rfl⟩
theorem PgOk.len {N:Nat}{P:Int}{S:PSys}(h:PgOk N P S):P+1≤N:=by
  have h1:=h.size
  have h2:=h.first
  have h3:=h.pages
  omega
theorem PgOk.curV {N:Nat}{P:Int}{S:PSys}(h:PgOk N P S){k:Int}(h1:1≤k)(h2:k≤P):PageV (cur S k).1 (cur S k).2:=by
  unfold cur
  cases hf:findP S.here k with
  | some f=>
    obtain⟨m1,_⟩:=find_some hf
    exact (h.here f m1).2.2
  | none=>
    obtain⟨g,g1,g2⟩:=h.disk k h1 h2
    simp only[g1,page_back g2]
    exact g2
theorem cur_here {S:PSys}{k:Int}{f:Fp}(h:findP S.here k=some f):cur S k=(f.lsn,f.es):=by unfold cur;rw[h]
theorem cur_none {S:PSys}{k:Int}{g:Pg}(h:findP S.here k=none)(hd:readV S.d k=pageBytes g.1 g.2)(hv:PageV g.1 g.2):cur S k=g:=by
  unfold cur
  rw[h]
  simp only[hd,page_back hv]
  rfl
theorem pg_flush {N:Nat}{P:Int}{S:PSys}(n:Int)(h:PgOk N P S) :
    ∃S',flushS S n=(S',none)∧PgOk N P S'∧PgTo P S S'∧S'.here=S.here∧has S'.t n=false:=by
  cases hf:findP S.here n with
  | none=>
    refine⟨S,flushS_none hf,h,.refl _ _,rfl,?_⟩
    rw[Bool.eq_false_iff]
    intro e
    obtain⟨d,hd,e2⟩:=(has_iff _ n h.rise).1 e
    obtain⟨f,hf2,e3⟩:=(h.tab d hd).1
    exact find_none hf f hf2 (e3.trans e2)
  | some f=>
    obtain⟨m1,m2⟩:=find_some hf
    obtain⟨f1,f2,f3⟩:=h.here f m1
    by_cases ht:has S.t n=true
    · have hP:=h.pages
      have hlen:=h.len
      have hfirst:=h.first
      obtain⟨S',q1,q2,q3,q4,q5,q6,q7,q8⟩:=flush_good h.good hf (by omega) (by omega) ht (by omega) h.size h.done (head_facts (headOk_of f3.1)).2.2
      have hrise:Rising S'.t:=by rw[q4];exact dropT_rising h.rise n
      have hsub : ∀d∈S'.t,d∈S.t:=fun d hd=>by rw[q4] at hd;exact drop_mem hd
      have hno:has S'.t n=false:=by
        rw[Bool.eq_false_iff]
        intro e
        obtain⟨d,hd,e⟩:=(has_iff _ n hrise).1 e
        rw[q4] at hd
        exact drop_ne S.t n h.rise d hd e
      have hkeep : ∀k,k≠n→has S'.t k=false→has S.t k=false:=fun k hk e=>by
        rw[Bool.eq_false_iff] at e ⊢
        intro e2
        obtain⟨d,hd,e3⟩:=(has_iff _ k h.rise).1 e2
        exact e ((has_iff _ k hrise).2 ⟨d,by rw[q4];exact drop_keep h.rise hd (by rw[e3];exact hk),e3⟩)
      have hlog : ∃dn,S'.l={ S.l with done:=dn }∧S.l.done≤dn∧dn≤S.l.l.length:=by
        rw[q7]
        split
        · exact⟨_,rfl,h.done,Nat.le_refl _⟩
        · exact⟨S.l.done,rfl,Nat.le_refl _,h.done⟩
      obtain⟨dn,e1,e2,e3⟩:=hlog
      refine⟨S',q1,⟨q2,hP,by rw[q6];exact h.frames,by rw[e1];exact hfirst,by rw[e1];exact h.size,by rw[e1];exact e3,by rw[q5,q6];exact h.few,by rw[q5];exact h.once,by rw[q5];exact h.here,hrise,fun d hd => ?_,fun k k1 k2 => ?_,fun g hg hgt => ?_⟩,⟨fun k k1 k2 => ?_,q6,⟨dn,e1,e2⟩,hsub⟩,q5,hno⟩
      · obtain⟨t1,t2,t3⟩:=h.tab d (hsub d hd)
        refine⟨by rw[q5];exact t1,t2,?_⟩
        rw[e1];exact t3
      · rw[q3 k (by omega)]
        by_cases hk:k=n
        · rw[if_pos hk];exact⟨(f.lsn,f.es),rfl,f3⟩
        · rw[if_neg hk];exact h.disk k k1 k2
      · rw[q5] at hg
        obtain⟨g1,g2,g3⟩:=h.here g hg
        rw[q3 g.n (by omega)]
        by_cases hk:g.n=n
        · rw[if_pos hk]
          have:=find_once h.once hg
          rw[hk,hf] at this
          cases this
          rfl
        · rw[if_neg hk]
          exact h.same g hg (hkeep g.n hk hgt)
      · unfold cur
        rw[q5]
        cases hfk:findP S.here k with
        | some g=>rfl
        | none=>
          simp only
          rw[q3 k (by omega),if_neg]
          intro e
          rw[e,hf] at hfk
          cases hfk
    · have hn:has S.t n=false:=Bool.eq_false_iff.2 ht
      exact⟨S,flushS_clean hn,h,.refl _ _,rfl,hn⟩
theorem find_erase {l:List Fp}{k:Nat}{n:Int}(ho:l.Pairwise fun a b=>a.n≠b.n)(hk:k<l.length):findP (l.eraseIdx k) n=if n=l[k].n then none else findP l n:=by
  split
  · rename_i e
    unfold findP
    rw[List.find?_eq_none]
    intro f hf e2
    have e3:f.n=l[k].n:=by rw[←e];exact of_decide_eq_true e2
    rw[List.mem_eraseIdx_iff_getElem] at hf
    obtain⟨j,hj,hne,rfl⟩:=hf
    rw[List.pairwise_iff_getElem] at ho
    rcases Nat.lt_or_gt_of_ne hne with h | h
    · exact ho j k hj hk h e3
    · exact ho k j hk hj h e3.symm
  · rename_i e
    cases hf:findP l n with
    | none=>
      unfold findP
      rw[List.find?_eq_none]
      intro f hf2 e2
      exact find_none hf f ((List.eraseIdx_sublist _ _).mem hf2) (of_decide_eq_true e2)
    | some f=>
      obtain⟨m1,m2⟩:=find_some hf
      have hm:f∈l.eraseIdx k:=by
        rw[List.mem_eraseIdx_iff_getElem]
        obtain⟨j,hj,e3⟩:=List.getElem_of_mem m1
        exact⟨j,hj,fun e4=>e (by subst e4;rw[e3,m2]),e3⟩
      have:=find_once (ho.sublist (List.eraseIdx_sublist l k)) hm
      rw[m2] at this
      exact this
theorem pg_evict {N:Nat}{P:Int}{S:PSys}(hint:Int)(h:PgOk N P S) :
    ∃S',evictS S hint=(S',none)∧PgOk N P S'∧PgTo P S S'∧S'.here.length=S.here.length - 1∧(∀f∈S'.here,f∈S.here):=by
  by_cases hz:S.here.length=0
  · have hnil:S.here=[]:=List.length_eq_zero_iff.1 hz
    refine⟨S,?_,h,.refl _ _,by omega,fun f hf=>hf⟩
    unfold evictS
    rw[hnil]
    rfl
  have hk:evictK S hint<S.here.length:=by unfold evictK;exact Nat.mod_lt _ (by omega)
  obtain⟨k,hkk⟩ : ∃k,evictK S hint=k:=⟨_,rfl⟩
  rw[hkk] at hk
  have hm:S.here[k]∈S.here:=List.getElem_mem hk
  obtain⟨S1,q1,q2,q3,q4,q5⟩:=pg_flush S.here[k].n h
  have hsub : ∀f∈S.here.eraseIdx k,f∈S.here:=fun f hf=>(List.eraseIdx_sublist _ _).mem hf
  have hlen:(S.here.eraseIdx k).length=S.here.length - 1:=by rw[List.length_eraseIdx,if_pos hk]
  refine⟨{ S1 with here:=S1.here.eraseIdx k },?_,⟨q2.good,q2.pages,q2.frames,q2.first,q2.size,q2.done,?_,?_,?_,q2.rise,fun d hd => ?_,q2.disk,?_⟩,⟨fun j j1 j2 => ?_,q3.frames,q3.log,q3.tab⟩,?_,?_⟩
  · unfold evictS
    rw[hkk,List.getElem?_eq_getElem hk]
    simp only[q1]
  · show ((S1.here.eraseIdx k).length:Int)≤S1.frames
    rw[q4,hlen]
    have:=h.few
    have:=q3.frames
    omega
  · show (S1.here.eraseIdx k).Pairwise _
    rw[q4]
    exact h.once.sublist (List.eraseIdx_sublist _ _)
  · show ∀f∈S1.here.eraseIdx k,_
    rw[q4]
    exact fun f hf=>h.here f (hsub f hf)
  · obtain⟨⟨f,hf,e⟩,t2,t3⟩:=q2.tab d hd
    rw[q4] at hf
    refine⟨⟨f,?_,e⟩,t2,t3⟩
    show f∈S1.here.eraseIdx k
    rw[q4]
    have hne:f≠S.here[k]:=fun e2=>by
      rw[Bool.eq_false_iff] at q5
      exact q5 ((has_iff _ _ q2.rise).2 ⟨d,hd,by rw[←e,e2]⟩)
    rw[List.mem_eraseIdx_iff_getElem]
    obtain⟨j,hj,e3⟩:=List.getElem_of_mem hf
    exact⟨j,hj,fun e4=>hne (by subst e4;exact e3.symm),e3⟩
  · show ∀f∈S1.here.eraseIdx k,_
    rw[q4]
    intro f hf hft
    exact q2.same f (by rw[q4];exact hsub f hf) hft
  · rw[←q3.cur j j1 j2]
    unfold cur
    show (match findP (S1.here.eraseIdx k) j with | some f=>(f.lsn,f.es) | none=>(readPage (readV S1.d j)).getD (0,[]))=_
    rw[q4,find_erase h.once hk]
    by_cases hj:j=S.here[k].n
    · rw[if_pos hj]
      have hfd:=find_once h.once hm
      rw[←hj] at hfd
      rw[hfd]
      simp only
      have h1:=q2.same S.here[k] (by rw[q4];exact hm) q5
      rw[hj,h1,page_back (h.here _ hm).2.2]
      rfl
    · rw[if_neg hj]
  · show (S1.here.eraseIdx k).length=_
    rw[q4];exact hlen
  · show ∀f∈S1.here.eraseIdx k,_
    rw[q4]
    exact hsub
theorem pg_tail {N:Nat}{P:Int}{S:PSys}{n:Int}(h:PgOk N P S)(h1:1≤n)(h2:n≤P)(hn:findP S.here n=none)(hl:(S.here.length:Int)<S.frames) :
    ∃S',getTail S n=(S',cur S n,.fine)∧PgOk N P S'∧PgTo P S S'∧findP S'.here n=some ⟨n,(cur S n).1,(cur S n).2⟩:=by
  obtain⟨g,g1,g2⟩:=h.disk n h1 h2
  have hcur:=cur_none hn g1 g2
  have hlen:=h.len
  have hht:has S.t n=false:=by
    rw[Bool.eq_false_iff]
    intro e
    obtain⟨d,hd,e2⟩:=(has_iff _ n h.rise).1 e
    obtain⟨⟨f,hf,e3⟩,_⟩:=h.tab d hd
    exact find_none hn f hf (e3.trans e2)
  rw[hcur]
  refine⟨{ S with here:=S.here++[⟨n,g.1,g.2⟩] },?_,⟨h.good,h.pages,h.frames,h.first,h.size,h.done,?_,?_,?_,h.rise,fun d hd => ?_,h.disk,?_⟩,⟨fun k k1 k2 => ?_,rfl,⟨S.l.done,rfl,Nat.le_refl _⟩,fun d hd=>hd⟩,find_last hn rfl⟩
  · unfold getTail
    rw[h.good.readE (by omega) (by omega)]
    simp only
    rw[g1,page_back g2]
  · show ((S.here++[_]).length:Int)≤S.frames
    rw[List.length_append];simp;omega
  · show (S.here++[_]).Pairwise _
    rw[List.pairwise_append]
    refine⟨h.once,List.pairwise_singleton _ _,fun a ha b hb => ?_⟩
    rw[List.mem_singleton] at hb
    subst hb
    exact find_none hn a ha
  · show ∀f∈S.here++[_],_
    intro f hf
    rcases List.mem_append.1 hf with hf | hf
    · exact h.here f hf
    · rw[List.mem_singleton] at hf
      subst hf
      exact⟨h1,h2,g2⟩
  · obtain⟨⟨f,hf,e⟩,t2,t3⟩:=h.tab d hd
    exact⟨⟨f,List.mem_append_left _ hf,e⟩,t2,t3⟩
  · show ∀f∈S.here++[_],_
    intro f hf hft
    rcases List.mem_append.1 hf with hf | hf
    · exact h.same f hf hft
    · rw[List.mem_singleton] at hf
      subst hf
      exact g1
  · by_cases hk:k=n
    · subst hk
      rw[hcur]
      exact cur_here (S:={ S with here:=S.here++[⟨k,g.1,g.2⟩] }) (find_last hn rfl)
    · unfold cur
      show (match findP (S.here++[⟨n,g.1,g.2⟩]) k with | some f=>(f.lsn,f.es) | none=>(readPage (readV S.d k)).getD (0,[]))=_
      have e:findP (S.here++[⟨n,g.1,g.2⟩]) k=findP S.here k:=by
        unfold findP
        rw[List.find?_append]
        have:([⟨n,g.1,g.2⟩]:List Fp).find? (fun f=>decide (f.n=k))=none:=by
          simp
          omega
        rw[this,Option.or_none]
      rw[e]
theorem PgTo.trans {P:Int}{S S1 S2:PSys}(h:PgTo P S S1)(k:PgTo P S1 S2):PgTo P S S2:=by
  obtain⟨a,a1,a2⟩:=h.log
  obtain⟨b,b1,b2⟩:=k.log
  exact⟨fun j j1 j2=>(k.cur j j1 j2).trans (h.cur j j1 j2),k.frames.trans h.frames,⟨b,by rw[b1,a1],by rw[a1] at b2;exact Nat.le_trans a2 b2⟩,fun d hd=>h.tab d (k.tab d hd)⟩
theorem pg_get {N:Nat}{P:Int}{S:PSys}{n:Int}(hint:Int)(h:PgOk N P S)(h1:1≤n)(h2:n≤P) :
    ∃S',getS S n hint=(S',cur S n,.fine)∧PgOk N P S'∧PgTo P S S'∧findP S'.here n=some ⟨n,(cur S n).1,(cur S n).2⟩:=by
  cases hf:findP S.here n with
  | some f=>
    obtain⟨m1,m2⟩:=find_some hf
    refine⟨S,by rw[getS_found hf,cur_here hf],h,.refl _ _,?_⟩
    rw[hf,cur_here hf]
    simp only
    rw[←m2]
  | none=>
    by_cases hr:S.frames≤S.here.length
    · obtain⟨S',v1,v2,v3,v4,v5⟩:=pg_evict hint h
      have hn':findP S'.here n=none:=by
        unfold findP
        rw[List.find?_eq_none]
        intro f hf2 e
        exact find_none hf f (v5 f hf2) (of_decide_eq_true e)
      have hfew:=h.few
      have hfr:=h.frames
      have hfr2:=v3.frames
      obtain⟨S2,t1,t2,t3,t4⟩:=pg_tail v2 h1 h2 hn' (by omega)
      have hc:=v3.cur n h1 h2
      rw[hc] at t1 t4
      exact⟨S2,by rw[getS_evict hf (by omega) hr v1,t1],t2,v3.trans t3,t4⟩
    · obtain⟨S2,t1,t2,t3,t4⟩:=pg_tail h h1 h2 hf (by omega)
      exact⟨S2,by rw[getS_room hf (by omega) hr,t1],t2,t3,t4⟩
theorem pg_append {N:Nat}{P:Int}{S:PSys}{r:RecV}(h:PgOk N P S)(hr:recOk r=true)(hm:1≤S.l.room)(hB:S.l.first+S.l.blocks≤N) :
    appendE S.l r=none∧appendN S.l r=S.l.last+1∧appendL S.l r={ S.l with l:=S.l.l++[r] }∧PgOk N P { S with l:={ S.l with l:=S.l.l++[r] } }:=by
  obtain⟨a1,a2,a3⟩:=append_room hr hm
  refine⟨a1,a2,a3,⟨h.good,h.pages,h.frames,h.first,?_,?_,h.few,h.once,h.here,h.rise,fun d hd => ?_,h.disk,h.same⟩⟩
  · show S.l.first*6+((S.l.l++[r]).length:Nat)≤N*6
    rw[List.length_append]
    unfold Lg.room at hm
    simp
    omega
  · show S.l.done≤(S.l.l++[r]).length
    rw[List.length_append]
    have:=h.done
    omega
  · obtain⟨t1,t2,t3⟩:=h.tab d hd
    refine⟨t1,t2,?_⟩
    unfold Lg.last at *
    show d.2≤S.l.base+((S.l.l++[r]).length:Nat)
    rw[List.length_append]
    simp
    omega
theorem pg_set {N:Nat}{P:Int}{S:PSys}{n lsn:Int}{es:List (Int×Int)}{f:Fp}(h:PgOk N P S)(hf:findP S.here n=some f)(hv:PageV lsn es)(h1:1≤lsn)(h2:lsn≤S.l.last) :
    ∃S',setS S n lsn es=(S',none)∧PgOk N P S'∧(∀k,cur S' k=if k=n then (lsn,es) else cur S k)∧S'.l=S.l∧S'.d=S.d∧S'.frames=S.frames∧S'.t=addT S.t n lsn∧S'.here.map (·.n)=S.here.map (·.n):=by
  have hn : ∀x:Fp,(if x.n=n then (⟨n,lsn,es⟩:Fp) else x).n=x.n:=fun x=>by split<;>simp[*]
  have hfind : ∀k,findP (S.here.map fun g=>if g.n=n then ⟨n,lsn,es⟩ else g) k=if k=n then some ⟨n,lsn,es⟩ else findP S.here k:=fun k=>by
    by_cases hk:k=n
    · subst hk
      rw[if_pos rfl]
      obtain⟨m1,m2⟩:=find_some hf
      unfold findP
      have : ∀l:List Fp,f∈l→(l.map fun g=>if g.n=k then (⟨k,lsn,es⟩:Fp) else g).find? (fun f=>decide (f.n=k))=some ⟨k,lsn,es⟩:=by
        intro l
        induction l with
        | nil=>intro h;cases h
        | cons x xs ih=>
          intro hm
          rw[List.map_cons,List.find?_cons]
          by_cases hx:x.n=k
          · simp[hx]
          · simp only[hx,if_false,decide_false]
            rcases List.mem_cons.1 hm with rfl | hm
            · exact absurd m2 hx
            · exact ih hm
      exact this _ m1
    · rw[if_neg hk]
      unfold findP
      generalize S.here=l
      induction l with
      | nil=>rfl
      | cons x xs ih=>
        rw[List.map_cons,List.find?_cons,List.find?_cons,hn]
        by_cases hx:x.n=k
        · simp only[hx,decide_true,if_neg hk]
        · simp only[hx,decide_false]
          exact ih
  refine⟨_,setS_ok hf hv.1,⟨h.good,h.pages,h.frames,h.first,h.size,h.done,?_,?_,?_,addT_rising h.rise _ _,fun d hd => ?_,h.disk,?_⟩,fun k => ?_,rfl,rfl,rfl,rfl,?_⟩
  · show ((S.here.map _).length:Int)≤S.frames
    rw[List.length_map];exact h.few
  · show (S.here.map _).Pairwise _
    rw[List.pairwise_map]
    refine h.once.imp fun {a b} hab => ?_
    rw[hn,hn];exact hab
  · show ∀g∈S.here.map _,_
    intro g hg
    obtain⟨y,hy,rfl⟩:=List.mem_map.1 hg
    obtain⟨e1,e2,e3⟩:=h.here y hy
    by_cases hyn:y.n=n
    · rw[if_pos hyn];exact⟨by rw[←hyn];exact e1,by rw[←hyn];exact e2,hv⟩
    · rw[if_neg hyn];exact⟨e1,e2,e3⟩
  · obtain⟨m1,m2⟩:=find_some hf
    rcases add_mem hd with hd | hd
    · obtain⟨⟨y,hy,e⟩,t2,t3⟩:=h.tab d hd
      exact⟨⟨_,List.mem_map.2 ⟨y,hy,rfl⟩,by rw[hn];exact e⟩,t2,t3⟩
    · refine⟨⟨_,List.mem_map.2 ⟨f,m1,rfl⟩,by rw[hn,m2,hd]⟩,by rw[hd];exact h1,by rw[hd];exact h2⟩
  · show ∀g∈S.here.map _,_
    intro g hg hgt
    obtain⟨y,hy,rfl⟩:=List.mem_map.1 hg
    by_cases hyn:y.n=n
    · exfalso
      rw[hn,hyn] at hgt
      have e':has (addT S.t n lsn) n=false:=hgt
      rw[has_add_self h.rise] at e'
      cases e'
    · rw[if_neg hyn] at hgt ⊢
      exact h.same y hy (has_add h.rise hgt)
  · unfold cur
    show (match findP (S.here.map fun g=>if g.n=n then ⟨n,lsn,es⟩ else g) k with | some f=>(f.lsn,f.es) | none=>(readPage (readV S.d k)).getD (0,[]))=_
    rw[hfind k]
    by_cases hk:k=n
    · rw[if_pos hk,if_pos hk]
    · rw[if_neg hk,if_neg hk]
  · show (S.here.map _).map _=_
    rw[List.map_map]
    exact List.map_congr_left fun x _=>hn x
theorem pg_log {N:Nat}{P:Int}{S:PSys}(h:PgOk N P S) :
    ∃d',lflush S.l S.d=({ S.l with done:=S.l.l.length },d',none)∧PgOk N P { S with l:={ S.l with done:=S.l.l.length },d:=d' }∧(∀k,1≤k→k≤P→cur { S with l:={ S.l with done:=S.l.l.length },d:=d' } k=cur S k):=by
  have hP:=h.pages
  have hfirst:=h.first
  obtain⟨a1,a2,a3,a4⟩:=h.good.lflush (L:=S.l) (by omega) h.size h.done
  obtain⟨q,hq⟩ : ∃q,lflush S.l S.d=q:=⟨_,rfl⟩
  rw[hq] at a1 a2 a3 a4
  obtain⟨L',d',o⟩:=q
  simp only at a1 a2 a3 a4
  subst a1 a2
  refine⟨d',hq,⟨a3,hP,h.frames,hfirst,h.size,Nat.le_refl _,h.few,h.once,h.here,h.rise,h.tab,fun k k1 k2 => ?_,fun f hf hft => ?_⟩,fun k k1 k2 => ?_⟩
  · show ∃g:Pg,readV d' k=_∧_
    rw[a4 k (by omega)];exact h.disk k k1 k2
  · obtain⟨f1,f2,_⟩:=h.here f hf
    show readV d' f.n=_
    rw[a4 f.n (by omega)];exact h.same f hf hft
  · unfold cur
    show (match findP S.here k with | some f=>(f.lsn,f.es) | none=>(readPage (readV d' k)).getD (0,[]))=_
    rw[a4 k (by omega)]
theorem lflush_tight {n:Nat}{L:Lg}{d:Dsk}{m:Nat}(h:GoodD.Good d n)(hL:0≤L.first)(hr:L.first*6+L.l.length≤n*6)(hl:LooseLe d m):LooseLe (lflush L d).2.1 m:=by
  unfold RecD.lflush
  by_cases he:L.done=L.l.length
  · rw[if_pos he];exact hl
  · rw[if_neg he]
    obtain⟨g1,g2,g3⟩:=Good.from hL hr (L.l.length+1) (L.done / 6) d h
    obtain⟨q,hq⟩ : ∃q,flushFrom L (L.l.length+1) (L.done / 6) d=q:=⟨_,rfl⟩
    rw[hq] at g1 g2 ⊢
    obtain⟨d',o⟩:=q
    simp only at g1 g2
    subst g1
    obtain⟨s1,s2,s3⟩:=g2.sync
    simp only[s1]
    intro s hs
    have hd:(syncD d').l=d'.l.map fastS:=by
      unfold syncD
      rw[if_neg (by rw[g2.on];decide),if_pos g2.spendB]
    rw[hd] at hs
    obtain⟨s0,_,rfl⟩:=List.mem_map.1 hs
    simp[fastS]
theorem flushS_tight {N:Nat}{P:Int}{S:PSys}{m:Nat}(n:Int)(h:PgOk N P S)(hl:LooseLe S.d m):LooseLe (flushS S n).1.d (m+1):=by
  have hP:=h.pages
  have hfirst:=h.first
  have hl2:=lflush_tight (L:=S.l) h.good (by omega) h.size hl
  unfold flushS
  split
  · exact hl.mono (by omega)
  · rename_i f hfd
    split
    · exact hl.mono (by omega)
    · by_cases hd:S.l.doneN<f.lsn
      · simp only[if_pos hd]
        split
        · exact hl2.mono (by omega)
        · split
          · exact writeD_loose n (pageBytes f.lsn f.es) hl2
          · exact writeD_loose n (pageBytes f.lsn f.es) hl2
      · simp only[if_neg hd]
        split
        · exact writeD_loose n (pageBytes f.lsn f.es) hl
        · exact writeD_loose n (pageBytes f.lsn f.es) hl
theorem evictS_tight {N:Nat}{P:Int}{S:PSys}{m:Nat}(hint:Int)(h:PgOk N P S)(hl:LooseLe S.d m):LooseLe (evictS S hint).1.d (m+1):=by
  rcases evictS_d S hint with e | ⟨n,e⟩
  · rw[e];exact hl.mono (by omega)
  · rw[e];exact flushS_tight n h hl
theorem getS_tight {N:Nat}{P:Int}{S:PSys}{m:Nat}(n hint:Int)(h:PgOk N P S)(hl:LooseLe S.d m):LooseLe (getS S n hint).1.d (m+1):=by
  rcases getS_d S n hint with e | e
  · rw[e];exact hl.mono (by omega)
  · rw[e];exact evictS_tight hint h hl
end Go.Proofs.YtaplpeoikebedaaGreatDoor.Pager
namespace Go.Proofs.YtaplpeoikebedaaGreatDoor.StoreD
open Go.RowKit See Mem Clone Go.Proofs.YtaplpeoikebedaaGreatDoor.Cell Page PageB PageR PageL Disk DiskN DiskW RecD Dirty Dirty2 SysD SysM Wal WalF GoodD PoolG PoolS FlushG Fresh DirtD PoolA TabL SortI Pager
structure Tx where
  id:Int
  state:Int
  last:Int
  next:Int
def tx0:Tx:=⟨0,0,0,0⟩
def kvT (ts:List Tx):List (Int×Int):=ts.map fun t=>(t.id,t.state)
theorem kvT_len (ts:List Tx):(kvT ts).length=ts.length:=List.length_map _
def tpos (ts:List Tx)(id:Int):Nat:=pos (kvT ts) id
def thas (ts:List Tx)(id:Int):Bool:=has (kvT ts) id
def tget (ts:List Tx)(id:Int):Tx:=if thas ts id then (ts[tpos ts id]?).getD tx0 else tx0
def tnote (ts:List Tx)(id last next:Int):List Tx:=if thas ts id then ts.modify (tpos ts id) fun t=>⟨t.id,t.state,last,next⟩ else ts
def tstate (ts:List Tx)(id state:Int):List Tx:=if thas ts id then ts.modify (tpos ts id) fun t=>⟨t.id,state,t.last,t.next⟩ else ts
def tdrop (ts:List Tx)(id:Int):List Tx:=if thas ts id then ts.eraseIdx (tpos ts id) else ts
def tadd (ts:List Tx)(x:Tx):List Tx:=if thas ts x.id then ts.set (tpos ts x.id) x else ts.take (tpos ts x.id)++x :: ts.drop (tpos ts x.id)
theorem thas_at {ts:List Tx}{id:Int}(h:thas ts id=true) : ∃t,ts[tpos ts id]? = some t∧t.id=id∧tget ts id=t:=by
  obtain⟨f,hf⟩:=pos_has h
  unfold kvT at hf
  rw[List.getElem?_map] at hf
  obtain⟨t,ht,e⟩:=Option.map_eq_some_iff.1 hf
  simp only[Prod.mk.injEq] at e
  have ht':ts[tpos ts id]? = some t:=ht
  exact⟨t,ht',e.1,by unfold tget;rw[if_pos h,ht'];rfl⟩
theorem thas_iff {ts:List Tx}(hr:Rising (kvT ts))(id:Int):thas ts id=true↔∃t∈ts,t.id=id:=by
  unfold thas
  rw[has_iff _ _ hr]
  constructor
  · rintro⟨d,hd,e⟩
    obtain⟨t,ht,rfl⟩:=List.mem_map.1 hd
    exact⟨t,ht,e⟩
  · rintro⟨t,ht,e⟩
    exact⟨_,List.mem_map.2 ⟨t,ht,rfl⟩,e⟩
theorem tget_mem {ts:List Tx}{id:Int}(h:thas ts id=true):tget ts id∈ts∧(tget ts id).id=id:=by
  obtain⟨t,h1,h2,h3⟩:=thas_at h
  rw[h3]
  exact⟨List.mem_of_getElem? h1,h2⟩
theorem kvT_at {ts:List Tx}(hr:Rising (kvT ts)){i j:Nat}{a b:Tx}(hi:ts[i]? = some a)(hj:ts[j]? = some b)(e:a.id=b.id):i=j:=by
  obtain⟨h1,h2⟩:=List.getElem?_eq_some_iff.1 hi
  obtain⟨h3,h4⟩:=List.getElem?_eq_some_iff.1 hj
  have hp:=List.pairwise_iff_getElem.1 hr
  unfold kvT at hp
  simp only[List.length_map,List.getElem_map] at hp
  rcases Nat.lt_trichotomy i j with h | h | h
  · have:=hp i j h1 h3 h;rw[h2,h4] at this;omega
  · exact h
  · have:=hp j i h3 h1 h;rw[h2,h4] at this;omega
theorem kv_modify {ts:List Tx}{k:Nat}{f:Tx→Tx}(hf : ∀t,(f t).id=t.id):(kvT (ts.modify k f)).map (·.1)=(kvT ts).map (·.1):=by
  unfold kvT
  rw[List.map_map,List.map_map]
  apply List.ext_getElem?
  intro i
  rw[List.getElem?_map,List.getElem?_map,List.getElem?_modify]
  cases ts[i]? with
  | none=>rfl
  | some t=>by_cases h:k=i<;>simp[h,hf]
theorem rising_keys {a b:List (Int×Int)}(h:a.map (·.1)=b.map (·.1))(hb:Rising b):Rising a:=by
  have h1 : ∀l:List (Int×Int),Rising l↔(l.map (·.1)).Pairwise (· < ·):=fun l=>by unfold Rising;rw[List.pairwise_map]
  rw[h1] at hb ⊢
  rw[h];exact hb
theorem tnote_rise {ts:List Tx}{id l n:Int}(h:Rising (kvT ts)):Rising (kvT (tnote ts id l n)):=by
  unfold tnote
  split
  · exact rising_keys (kv_modify (fun _=>rfl)) h
  · exact h
theorem tstate_rise {ts:List Tx}{id s:Int}(h:Rising (kvT ts)):Rising (kvT (tstate ts id s)):=by
  unfold tstate
  split
  · exact rising_keys (kv_modify (fun _=>rfl)) h
  · exact h
theorem mem_modify {ts:List Tx}{k:Nat}{f:Tx→Tx}{u:Tx}(hr:Rising (kvT ts)){t:Tx}(hk:ts[k]? = some t)(hu:u∈ts.modify k f):u=f t∨(u∈ts∧u.id≠t.id):=by
  obtain⟨i,hi,e⟩:=List.getElem_of_mem hu
  have h2:(ts.modify k f)[i]? = some u:=by rw[List.getElem?_eq_getElem hi,e]
  rw[List.getElem?_modify] at h2
  cases h3:ts[i]? with
  | none=>rw[h3] at h2;cases h2
  | some v=>
    rw[h3] at h2
    by_cases hki:k=i
    · subst hki
      rw[hk] at h3
      cases h3
      simp at h2
      exact .inl h2.symm
    · simp[hki] at h2
      subst h2
      refine .inr ⟨List.mem_of_getElem? h3,fun e2=>hki ?_⟩
      exact (kvT_at hr h3 hk e2).symm
theorem mem_tnote {ts:List Tx}{id l n:Int}{u:Tx}(hr:Rising (kvT ts))(h:thas ts id=true)(hu:u∈tnote ts id l n):u=⟨id,(tget ts id).state,l,n⟩∨(u∈ts∧u.id≠id):=by
  obtain⟨t,h1,h2,h3⟩:=thas_at h
  unfold tnote at hu
  rw[if_pos h] at hu
  rcases mem_modify hr h1 hu with e | ⟨e1,e2⟩
  · exact .inl (by rw[e,h3,h2])
  · exact .inr ⟨e1,by rw[←h2];exact e2⟩
theorem mem_tstate {ts:List Tx}{id s:Int}{u:Tx}(hr:Rising (kvT ts))(h:thas ts id=true)(hu:u∈tstate ts id s):u=⟨id,s,(tget ts id).last,(tget ts id).next⟩∨(u∈ts∧u.id≠id):=by
  obtain⟨t,h1,h2,h3⟩:=thas_at h
  unfold tstate at hu
  rw[if_pos h] at hu
  rcases mem_modify hr h1 hu with e | ⟨e1,e2⟩
  · exact .inl (by rw[e,h3,h2])
  · exact .inr ⟨e1,by rw[←h2];exact e2⟩
theorem kv_erase : ∀(ts:List Tx) (k:Nat),kvT (ts.eraseIdx k)=(kvT ts).eraseIdx k
  | [],k=>by simp[kvT]
  | t :: ts,0=>rfl
  | t :: ts,k+1=>by
    have:=kv_erase ts k
    unfold kvT at this ⊢
    rw[List.eraseIdx_cons_succ,List.map_cons,List.map_cons,List.eraseIdx_cons_succ,this]
theorem tdrop_rise {ts:List Tx}{id:Int}(h:Rising (kvT ts)):Rising (kvT (tdrop ts id)):=by
  unfold tdrop
  split
  · rw[kv_erase];exact h.sublist (List.eraseIdx_sublist _ _)
  · exact h
theorem mem_tdrop {ts:List Tx}{id:Int}{u:Tx}(hr:Rising (kvT ts))(h:thas ts id=true):u∈tdrop ts id↔u∈ts∧u.id≠id:=by
  obtain⟨t,h1,h2,h3⟩:=thas_at h
  unfold tdrop
  rw[if_pos h,List.mem_eraseIdx_iff_getElem?]
  constructor
  · rintro⟨i,hi,e⟩
    exact⟨List.mem_of_getElem? e,fun e2=>hi (kvT_at hr e h1 (e2.trans h2.symm))⟩
  · rintro⟨hm,hne⟩
    obtain⟨i,hi,e⟩:=List.getElem_of_mem hm
    refine⟨i,fun e2 => ?_,by rw[List.getElem?_eq_getElem hi,e]⟩
    subst e2
    rw[List.getElem?_eq_getElem hi,e] at h1
    cases h1
    exact hne h2
theorem tadd_last {ts:List Tx}{x:Tx}(h : ∀t∈ts,t.id<x.id):thas ts x.id=false∧tadd ts x=ts++[x]∧tpos ts x.id=ts.length:=by
  have hp:tpos ts x.id=ts.length:=by
    have:=pos_eq (kvT ts) x.id ts.length (by rw[kvT_len];omega) (fun j d _ hd=>by
      obtain⟨t,ht,rfl⟩:=List.mem_map.1 (List.mem_of_getElem? hd)
      exact h t ht) (fun d hd=>by
      have:=(List.getElem?_eq_some_iff.1 hd).1
      rw[kvT_len] at this
      omega)
    exact this
  have hh:thas ts x.id=false:=by
    unfold thas has
    rw[show pos (kvT ts) x.id=ts.length from hp,List.getElem?_eq_none (by rw[kvT_len];omega)]
  refine⟨hh,?_,hp⟩
  unfold tadd
  rw[if_neg (by rw[hh];decide),hp,List.take_length,List.drop_length]
structure Lk where
  s:Int
  key:Int
  mode:Int
def inWay (s key mode:Int)(h:Lk):Bool:=(mode == 1 || mode == 2) && h.key == key && h.s != s && (mode == 2 || h.mode == 2)
def whoL (ls:List Lk)(s key mode:Int):List Int:=(ls.filter (inWay s key mode)).map (·.s)
def lkIdx (s key:Int):List Lk→Int→Int
  | [],_ => -1
  | h :: hs,k=>if h.s=s∧h.key=key then k else lkIdx s key hs (k+1)
def takeL (ls:List Lk)(s key mode:Int):List Lk:=
  if lkIdx s key ls 0<0 then ls++[⟨s,key,mode⟩] else ls.modify (lkIdx s key ls 0).toNat fun h=>⟨h.s,h.key,max h.mode mode⟩
def freeL (ls:List Lk)(s:Int):List Lk:=ls.filter fun h=>h.s != s
def heldL (ls:List Lk):List Int:=(ls.filter fun h=>h.mode == 2).map (·.key)
def once:List Int→List Int
  | []=>[]
  | [x]=>[x]
  | x :: y :: ys=>if x=y then once (y :: ys) else x :: once (y :: ys)
def placeOf (key P:Int):Int:=1+(key*2654435761 % 4294967296 / 65536) % max P 1
theorem placeOf_in (key:Int){P:Int}(h:1≤P):1≤placeOf key P∧placeOf key P≤P:=by
  unfold placeOf
  have h1:max P 1=P:=by omega
  rw[h1]
  have h2:=Int.emod_nonneg (key*2654435761 % 4294967296 / 65536) (show P≠0 by omega)
  have h3:=Int.emod_lt_of_pos (key*2654435761 % 4294967296 / 65536) (show 0<P by omega)
  omega
def putE (es:List (Int×Int))(k v:Int):List (Int×Int):=if has es k then es.set (pos es k) (k,v) else addT es k v
def redoE (es:List (Int×Int))(r:RecV):List (Int×Int):=if r.has then putE es r.key r.new else dropT es r.key
def recOf (L:Lg)(n:Int):Option RecV:=if n≤L.base∨L.last<n then none else L.l[(n - L.base - 1).toNat]?
theorem recOf_lt {L:Lg}{n:Int}{r:RecV}(h:recOf L n=some r):L.base<n∧n≤L.last:=by
  unfold recOf at h
  split at h
  · cases h
  · omega
theorem recOf_mem {L:Lg}{n:Int}{r:RecV}(h:recOf L n=some r):r∈L.l:=by
  unfold recOf at h
  split at h
  · cases h
  · exact List.mem_of_getElem? h
theorem recOf_old {L L':Lg}{n:Int}{r q:RecV}(hb:L'.base=L.base)(hl:L'.l=L.l++[q])(h:recOf L n=some r):recOf L' n=some r:=by
  obtain⟨h1,h2⟩:=recOf_lt h
  unfold recOf at h ⊢
  rw[if_neg (by omega)] at h
  have h3:L'.last=L.last+1:=by unfold Lg.last;rw[hb,hl,List.length_append];simp;omega
  rw[if_neg (by rw[hb];omega),hb,hl,List.getElem?_append_left (List.getElem?_eq_some_iff.1 h).1]
  exact h
theorem recOf_new {L L':Lg}{q:RecV}(hb:L'.base=L.base)(hl:L'.l=L.l++[q]):recOf L' (L.last+1)=some q:=by
  have h3:L'.last=L.last+1:=by unfold Lg.last;rw[hb,hl,List.length_append];simp;omega
  unfold recOf
  rw[if_neg (by rw[h3];unfold Lg.last at *;rw[hb];omega),hl,hb]
  have:(L.last+1 - L.base - 1).toNat=L.l.length:=by unfold Lg.last;omega
  rw[this,List.getElem?_append_right (Nat.le_refl _)]
  simp
theorem recOf_done {L L':Lg}(hb:L'.base=L.base)(hl:L'.l=L.l)(n:Int):recOf L' n=recOf L n:=by unfold recOf Lg.last;rw[hb,hl]
inductive Norm (L:Lg):Int→Int→Prop where
  | zero:Norm L 0 0
  | set {n:Int} {r:RecV}:n≠0→recOf L n=some r→r.kind=2→Norm L n n
  | begin {n:Int} {r:RecV}:n≠0→recOf L n=some r→r.kind=1→Norm L n 0
  | clr {n k:Int} {r:RecV}:n≠0→recOf L n=some r→r.kind=3→r.next<n→Norm L r.next k→Norm L n k
  | end_ {n k:Int} {r:RecV}:n≠0→recOf L n=some r→(r.kind=4∨r.kind=5)→r.prev<n→Norm L r.prev k→Norm L n k
inductive Chain (L:Lg):Int→List Int→Prop where
  | nil {n:Int}:Norm L n 0→Chain L n []
  | cons {n k:Int} {r:RecV} {ks:List Int}:Norm L n k→k≠0→recOf L k=some r→r.prev<k→Chain L r.prev ks→Chain L n (k :: ks)
theorem Norm.keep {L L':Lg}{n k:Int}(h:Norm L n k)(hk : ∀m r,recOf L m=some r→recOf L' m=some r):Norm L' n k:=by
  induction h with
  | zero=>exact .zero
  | set h0 h1 h2=>exact .set h0 (hk _ _ h1) h2
  | begin h0 h1 h2=>exact .begin h0 (hk _ _ h1) h2
  | clr h0 h1 h2 h3 _ ih=>exact .clr h0 (hk _ _ h1) h2 h3 ih
  | end_ h0 h1 h2 h3 _ ih=>exact .end_ h0 (hk _ _ h1) h2 h3 ih
theorem Chain.keep {L L':Lg}{n:Int}{ks:List Int}(h:Chain L n ks)(hk : ∀m r,recOf L m=some r→recOf L' m=some r):Chain L' n ks:=by
  induction h with
  | nil h=>exact .nil (h.keep hk)
  | cons h0 h1 h2 h3 _ ih=>exact .cons (h0.keep hk) h1 (hk _ _ h2) h3 ih
theorem Norm.at_ {L:Lg}{n k:Int}(h:Norm L n k)(hk:k≠0) : ∃r,recOf L k=some r∧r.kind=2:=by
  induction h with
  | zero=>exact absurd rfl hk
  | set h0 h1 h2=>exact⟨_,h1,h2⟩
  | begin=>exact absurd rfl hk
  | clr h0 h1 h2 h3 _ ih=>exact ih hk
  | end_ h0 h1 h2 h3 _ ih=>exact ih hk
theorem Chain.norm {L:Lg}{n:Int}{ks:List Int}(h:Chain L n ks):Norm L n (ks.headD 0):=by
  cases h with
  | nil h=>exact h
  | cons h0 h1 h2 h3 h4=>exact h0
theorem Chain.of_norm {L:Lg}{n m:Int}{ks:List Int}(h:Chain L n ks)(hm:Norm L m (ks.headD 0)):Chain L m ks:=by
  cases h with
  | nil h=>exact .nil hm
  | cons h0 h1 h2 h3 h4=>exact .cons hm h1 h2 h3 h4
theorem Norm.head {L:Lg}{n k:Int}(h:Norm L n k):Norm L k k:=by
  by_cases hk:k=0
  · subst hk;exact .zero
  · obtain⟨r,h1,h2⟩:=h.at_ hk
    exact .set hk h1 h2
theorem Chain.at_ {L:Lg}{n:Int}{ks:List Int}(h:Chain L n ks) : ∀k∈ks,k≠0∧∃r,recOf L k=some r∧r.kind=2:=by
  induction h with
  | nil=>intro k hk;cases hk
  | cons h0 h1 h2 h3 _ ih=>
    intro k hk
    rcases List.mem_cons.1 hk with rfl | hk
    · exact⟨h1,h0.at_ h1⟩
    · exact ih k hk
end Go.Proofs.YtaplpeoikebedaaGreatDoor.StoreD
