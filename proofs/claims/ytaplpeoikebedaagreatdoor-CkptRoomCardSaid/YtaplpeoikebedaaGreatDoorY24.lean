/- Joined texts: TransT. No condition but what each says. -/
import Derived.Test.YtaplpeoikebedaaGreatDoorY19
import Derived.Test.YtaplpeoikebedaaGreatDoorY23
import Derived.Deep.RegionLaw
set_option maxHeartbeats 8000000
set_option maxRecDepth 100000
set_option linter.unusedVariables false
set_option linter.unusedSimpArgs false
namespace Go.Proofs.YtaplpeoikebedaaGreatDoor.TransT
open Go.RowKit YtaplpeoikebedaaGreatDoorW.PrintWords YtaplpeoikebedaaGreatDoorW.PrintLast YtaplpeoikebedaaGreatDoorW.PrintMore
open See Mem Clone Clone2 Go.Proofs.YtaplpeoikebedaaGreatDoor.Cell Page Dirty Rw Del Ins2 StoreD
attribute [local go_sem] max2_imax min2_imin max_two min_two
def txCells (ts:List Tx):List Value:=ts.flatMap fun t=>[.int .i64 t.id,.int .i64 t.state,.int .i64 t.last,.int .i64 t.next]
theorem txCells_len (ts:List Tx):(txCells ts).length=ts.length*4:=by
  induction ts with
  | nil=>rfl
  | cons t ts ih=>unfold txCells at ih ⊢;rw[List.flatMap_cons,List.length_append,ih];simp;omega
theorem txCells_one (ts:List Tx) : ∀u∈txCells ts,u.oneCell'=true:=fun u hu=>by
  unfold txCells at hu
  rw[List.mem_flatMap] at hu
  obtain⟨t,_,hu⟩:=hu
  simp at hu
  rcases hu with rfl | rfl | rfl | rfl<;>rfl
theorem txCells_at : ∀(ts:List Tx) (i:Nat) (t:Tx),ts[i]? = some t→(txCells ts)[i*4]? = some (.int .i64 t.id)∧(txCells ts)[i*4+1]? = some (.int .i64 t.state)∧(txCells ts)[i*4+2]? = some (.int .i64 t.last)∧(txCells ts)[i*4+3]? = some (.int .i64 t.next)
  | [],i,t,h=>by simp at h
  | x :: ts,0,t,h=>by
    simp at h
    subst h
    simp[txCells]
  | x :: ts,i+1,t,h=>by
    have:=txCells_at ts i t (by simpa using h)
    unfold txCells at this ⊢
    rw[show (i+1)*4=i*4+1+1+1+1 from by omega]
    simpa using this
theorem txCells_cut (ts:List Tx)(i:Nat):txCells (ts.take i)=(txCells ts).take (i*4)∧txCells (ts.drop i)=(txCells ts).drop (i*4):=by
  induction ts generalizing i with
  | nil=>simp[txCells]
  | cons t ts ih=>
    cases i with
    | zero=>simp[txCells]
    | succ i=>
      obtain⟨h1,h2⟩:=ih i
      unfold txCells at h1 h2 ⊢
      simp only[List.take_succ_cons,List.drop_succ_cons,List.flatMap_cons]
      rw[h1,h2,show (i+1)*4=i*4+1+1+1+1 from by omega]
      simp
theorem txCells_append (a b:List Tx):txCells (a++b)=txCells a++txCells b:=by unfold txCells;rw[List.flatMap_append]
def TR (w:World)(v:Value)(ts:List Tx):Prop:=w.ownsRow 0 102 4 v ts.length (txCells ts)∧ts.length≤100000
theorem TR.nil (w:World):TR w (.slice none 0 0) []:=⟨⟨rfl,.inl ⟨rfl,rfl⟩⟩,by simp⟩
theorem TR.below {w w':World}{v:Value}{ts:List Tx}(h:TR w v ts)(hb:Below w.heap.size w w'):TR w' v ts:=⟨ow_below h.1 hb,h.2⟩
theorem TR.frm {T:List Nat}{M:Nat→Prop}{w w':World}{v:Value}{ts:List Tx}(h:TR w v ts)(hf:Frm T M w w')(ht:102∉T):TR w' v ts:=⟨ow_frm h.1 hf ht,h.2⟩
theorem TR.rd {w:World}{v:Value}{ts:List Tx}(h:TR w v ts):Rd w 102 4 v ts.length (txCells ts):=Rd.of_own h.1 (by have:=h.2;omega)
theorem TR.form {w:World}{v:Value}{ts:List Tx}(h:TR w v ts):(v = .slice none 0 0∧ts=[]) ∨
    ∃g c,v = .slice (some ⟨g,0,none⟩) ts.length c∧(∀i t,ts[i]? = some t→w.cell? ⟨g,i*4,none⟩=some (.int .i64 t.id)∧w.cell? ⟨g,i*4+1,none⟩=some (.int .i64 t.state)∧w.cell? ⟨g,i*4+2,none⟩=some (.int .i64 t.last)∧w.cell? ⟨g,i*4+3,none⟩=some (.int .i64 t.next))∧g<w.heap.size:=by
  rcases h.1.2 with ⟨hv,h0⟩ | ⟨g,cap,cur,hv,hg,hh,hnc,hcm,hsz,htk⟩
  · exact .inl ⟨hv,List.eq_nil_of_length_eq_zero h0⟩
  · have hx : ∀(j:Nat) (u:Value),j<ts.length*4→(txCells ts)[j]? = some u→w.cell? ⟨g,j,none⟩=some u:=fun j u hj hu=>by
      rw[←htk,List.getElem?_take,if_pos hj] at hu
      simp only[World.cell?,hh]
      simpa using hu
    refine .inr ⟨g,cap,hv,fun i t ht => ?_,heap_lt hh⟩
    have hlt:i<ts.length:=(List.getElem?_eq_some_iff.1 ht).1
    obtain⟨c0,c1,c2,c3⟩:=txCells_at ts i t ht
    exact⟨hx _ _ (by omega) c0,hx _ _ (by omega) c1,hx _ _ (by omega) c2,hx _ _ (by omega) c3⟩
theorem thas_eq (ts:List Tx)(id:Int):thas ts id=match ts[tpos ts id]? with | some t=>t.id == id | none=>false:=by
  unfold thas has
  rw[show pos (kvT ts) id=tpos ts id from rfl]
  unfold kvT
  rw[List.getElem?_map]
  cases ts[tpos ts id]?<;>rfl
theorem tpos_eq (ts:List Tx)(n:Int)(k:Nat)(h0:k≤ts.length)(h1 : ∀j d,j<k→ts[j]? = some d→d.id<n)(h2 : ∀d,ts[k]? = some d→¬d.id<n):tpos ts n=k:=by
  unfold tpos
  refine pos_eq (kvT ts) n k (by rw[kvT_len];exact h0) (fun j d hj hd => ?_) (fun d hd => ?_)
  · unfold kvT at hd
    rw[List.getElem?_map] at hd
    obtain⟨t,ht,rfl⟩:=Option.map_eq_some_iff.1 hd
    exact h1 j t hj ht
  · unfold kvT at hd
    rw[List.getElem?_map] at hd
    obtain⟨t,ht,rfl⟩:=Option.map_eq_some_iff.1 hd
    exact h2 t ht
theorem tx_rise {ts:List Tx}(hr:Rising (kvT ts)){i j:Nat}{a b:Tx}(hi:ts[i]? = some a)(hj:ts[j]? = some b)(h:i<j):a.id<b.id:=by
  obtain⟨h1,h2⟩:=List.getElem?_eq_some_iff.1 hi
  obtain⟨h3,h4⟩:=List.getElem?_eq_some_iff.1 hj
  have hp:=List.pairwise_iff_getElem.1 hr i j (by rw[kvT_len];exact h1) (by rw[kvT_len];exact h3) h
  unfold kvT at hp
  simp only[List.getElem_map,h2,h4] at hp
  exact hp
theorem clos_tfind (id st la ne n:Int)(w:World) :
    Calls Tryz.prog 169 #[.agg #[.int .i64 id,.int .i64 st,.int .i64 la,.int .i64 ne],.int .i64 n] w fun e w'=>e = .returned (.int .i64 (cmpI id n))∧Below w.heap.size w w':=by
  go_enter Tryz.func169,Tryz.ntmps169
  go_wp2_with fail
  refine (compare_calls id n _).mono ?_
  rintro e w' ⟨rfl,rfl⟩
  go_wp2_with fail
  go_ret
  exact⟨by simp,below_alloc (Below.refl _ _) _⟩
theorem tsearch_calls (v:Value)(ts:List Tx)(n:Int)(w:World)(hp:TR w v ts)(hr:Rising (kvT ts)) :
    Calls Tryz.prog 168 #[v,.int .i64 n,.func (.func 169) #[] #[]] w fun e w'=>e = .returned (.tuple #[.int .i64 (tpos ts n:Nat),.bool (thas ts n)])∧Below w.heap.size w w':=by
  obtain⟨A,cap,rfl,_⟩:=ow_slice hp.1
  obtain⟨l,hl⟩ : ∃l,ts.length=l:=⟨_,rfl⟩
  have HL:=Aside0.mk hl
  have HP:=Aside0.mk hp
  have HR:=Aside0.mk hr
  have hl5:l≤100000:=by rw[←hl];exact hp.2
  rw[hl]
  clear hp hr hl
  go_enter Tryz.func168,Tryz.ntmps168
  go_wp2_with fail
  go_loopg [9,10] (l+1) (fun kq v9 v10 w' => ∃i j:Int,v9 = .int .i64 i∧v10 = .int .i64 j∧Aside0 (0≤i∧i≤j∧j≤l∧(kq:Int)=j - i+1)∧Aside0 (∀(k:Nat) (d:Tx),(k:Int)<i→ts[k]? = some d→d.id<n)∧Aside0 (∀(k:Nat) (d:Tx),j≤(k:Int)→ts[k]? = some d→¬d.id<n)∧Aside0 (Below w.heap.size w w'))
  case atStart=>exact⟨0,l,rfl,rfl,⟨by omega,by omega,by omega,by omega⟩,⟨fun k d h=>by omega⟩,⟨fun k d h hd=>by have:=(List.getElem?_eq_some_iff.1 hd).1;have:=HL.out;omega⟩,⟨Below.refl _ _⟩⟩
  case round=>
    obtain⟨i,j,rfl,rfl,HI,HA,HZ,HB⟩:=hrel
    have hi0:0≤i:=HI.out.1
    have hj0:j≤100000:=by have:=HI.out;omega
    by_cases hlt:i<j
    · have hij:0≤i+j:=by omega
      have hij2:i+j≤200000:=by omega
      obtain⟨h,hh⟩ : ∃h,(i+j) / 2=h:=⟨_,rfl⟩
      have hh0:0≤h:=by omega
      have hhi:i≤h:=by omega
      have hhj:h<j:=by omega
      have hhl:h<l:=by have:=HI.out;omega
      have hhb:h≤100000:=by omega
      obtain⟨⟨pg,st,la,ne⟩,hd⟩ : ∃d,ts[h.toNat]? = some d:=⟨_,List.getElem?_eq_getElem (by have:=HL.out;omega)⟩
      obtain⟨g,rfl⟩ : ∃g,A=some ⟨g,0,none⟩:=by
        rcases HP.out.form with ⟨_,h0⟩ | ⟨g,c,hv,_⟩
        · rw[h0] at hd;simp at hd
        · injection hv with h1;exact⟨g,h1⟩
      have hcl:wr.cell? ⟨g,h.toNat*4,none⟩=some (.int .i64 pg)∧wr.cell? ⟨g,h.toNat*4+1,none⟩=some (.int .i64 st)∧wr.cell? ⟨g,h.toNat*4+2,none⟩=some (.int .i64 la)∧wr.cell? ⟨g,h.toNat*4+3,none⟩=some (.int .i64 ne):=by
        rcases (TR.below HP.out HB.out).form with ⟨_,h0⟩ | ⟨g',c,hv,hc,_⟩
        · rw[h0] at hd;simp at hd
        · injection hv with h1;injection h1 with h1;injection h1 with h1;subst h1;exact hc _ _ hd
      obtain⟨hd0,hd1,hd2,hd3⟩:=hcl
      have HD:=Aside0.mk hd
      have HHH:=Aside0.mk (And.intro hhi hhj)
      clear hd hhi hhj
      go_wp2_with fail
      refine (clos_tfind pg st la ne n _).mono ?_
      rintro e w1 ⟨rfl,hb⟩
      replace HB:=Aside0.mk (below_step HB.out hb)
      clear hb hd0 hd1 hd2 hd3
      by_cases hc:pg<n
      · have hq:decide (cmpI pg n<0)=true:=by unfold cmpI;rw[if_pos hc];rfl
        have HC:=Aside0.mk hc
        clear hc
        go_wp2_with fail
        go_roundg (gk - (h+1 - i).toNat)
        case measure=>have:=HI.out;have:=HHH.out;omega
        case rel=>
          refine⟨h+1,j,rfl,rfl,⟨by omega,by have:=HHH.out;omega,by have:=HI.out;omega,by have:=HI.out;have:=HHH.out;omega⟩,⟨fun k d hk hd => ?_⟩,HZ,HB⟩
          rcases (show (k:Int)<h∨k=h.toNat by omega) with h1 | h1
          · obtain⟨hk1,hk2⟩:=List.getElem?_eq_some_iff.1 hd
            obtain⟨hg1,hg2⟩:=List.getElem?_eq_some_iff.1 HD.out
            have:=tx_rise HR.out hd HD.out (by omega)
            have hc:=HC.out
            simp only at this
            omega
          · subst h1
            rw[HD.out] at hd
            injection hd with hd
            subst hd
            exact HC.out
      · have hq:decide (cmpI pg n<0)=false:=by unfold cmpI;rw[if_neg hc];split<;>rfl
        have HC:=Aside0.mk hc
        clear hc
        go_wp2_with fail
        go_roundg (gk - (j - h).toNat)
        case measure=>have:=HI.out;have:=HHH.out;omega
        case rel=>
          refine⟨i,h,rfl,rfl,⟨by omega,by have:=HHH.out;omega,by omega,by have:=HI.out;have:=HHH.out;omega⟩,HA,⟨fun k d hk hd => ?_⟩,HB⟩
          rcases (show h<(k:Int)∨k=h.toNat by omega) with h1 | h1
          · obtain⟨hk1,hk2⟩:=List.getElem?_eq_some_iff.1 hd
            obtain⟨hg1,hg2⟩:=List.getElem?_eq_some_iff.1 HD.out
            have:=tx_rise HR.out HD.out hd (by omega)
            have hc:=HC.out
            simp only at this
            omega
          · subst h1
            rw[HD.out] at hd
            injection hd with hd
            subst hd
            exact HC.out
    · have HIJ:=Aside0.mk (show i=j by have:=HI.out;omega)
      have HPOS:=Aside0.mk (show ((tpos ts n:Nat):Int)=i by
        rw[tpos_eq ts n i.toNat (by have:=HI.out;have:=HL.out;omega) (fun k d hk hd=>HA.out k d (by omega) hd) (fun d hd=>HZ.out i.toNat d (by have:=HIJ.out;omega) hd)]
        omega)
      by_cases hil:i<l
      · obtain⟨⟨pg,st,la,ne⟩,hd⟩ : ∃d,ts[i.toNat]? = some d:=⟨_,List.getElem?_eq_getElem (by have:=HL.out;omega)⟩
        obtain⟨g,rfl⟩ : ∃g,A=some ⟨g,0,none⟩:=by
          rcases HP.out.form with ⟨_,h0⟩ | ⟨g,c,hv,_⟩
          · rw[h0] at hd;simp at hd
          · injection hv with h1;exact⟨g,h1⟩
        have hcl:wr.cell? ⟨g,i.toNat*4,none⟩=some (.int .i64 pg)∧wr.cell? ⟨g,i.toNat*4+1,none⟩=some (.int .i64 st)∧wr.cell? ⟨g,i.toNat*4+2,none⟩=some (.int .i64 la)∧wr.cell? ⟨g,i.toNat*4+3,none⟩=some (.int .i64 ne):=by
          rcases (TR.below HP.out HB.out).form with ⟨_,h0⟩ | ⟨g',c,hv,hc,_⟩
          · rw[h0] at hd;simp at hd
          · injection hv with h1;injection h1 with h1;injection h1 with h1;subst h1;exact hc _ _ hd
        obtain⟨hd0,hd1,hd2,hd3⟩:=hcl
        have HHAS:=Aside0.mk (show thas ts n=(cmpI pg n == 0) by
          rw[thas_eq,show tpos ts n=i.toNat from by have:=HPOS.out;omega,hd]
          have hz:=HZ.out i.toNat _ (by have:=HIJ.out;omega) hd
          simp only at hz
          unfold cmpI
          rw[if_neg hz]
          by_cases h:n<pg
          · rw[if_pos h];simp;omega
          · rw[if_neg h];simp;omega)
        clear hd
        have hlt2:decide (i<(l:Int))=true:=decide_eq_true hil
        go_wp2_with fail
        refine (clos_tfind pg st la ne n _).mono ?_
        rintro e w1 ⟨rfl,hb⟩
        replace HB:=Aside0.mk (below_step HB.out hb)
        clear hb hd0 hd1 hd2 hd3
        go_wp2_with fail
        exact bodyPost_ret (v:=.tuple #[.int .i64 i,.bool (cmpI pg n == 0)]) (by simp[results,Tryz.results168,go_sem]) rfl ⟨by rw[HPOS.out,HHAS.out],HB.out⟩
      · have HHAS:=Aside0.mk (show thas ts n=false by
          rw[thas_eq,show tpos ts n=i.toNat from by have:=HPOS.out;omega,List.getElem?_eq_none (by have:=HL.out;omega)])
        go_wp2_with fail
        exact bodyPost_ret (v:=.tuple #[.int .i64 i,.bool false]) (by simp[results,Tryz.results168,go_sem]) rfl ⟨by rw[HPOS.out,HHAS.out],HB.out⟩
structure TxM (M:Nat→Prop) (w:World) (p o e:Nat) (cs:Array Value) (v:Value) (ts:List Tx) (most:Int):Prop where
  box:w.heap[p]? = some (.cells cs e (0,0))
  at0:cs[o]? = some v
  at1:cs[o+1]? = some (.int .i64 most)
  row:TR w v ts
  low : ∀k,v.ownBlock=some k→M k
  mp:M p
  rise:Rising (kvT ts)
  ne:e≠102
theorem TxM.cell {M:Nat→Prop}{w:World}{p o e:Nat}{cs:Array Value}{v:Value}{ts:List Tx}{most:Int}(h:TxM M w p o e cs v ts most):w.cell? ⟨p,o,none⟩=some v∧w.cell? ⟨p,o+1,none⟩=some (.int .i64 most):=by
  refine⟨?_,?_⟩
  · simp only[World.cell?,h.box];simpa using h.at0
  · simp only[World.cell?,h.box];simpa using h.at1
theorem TxM.frozen {M:Nat→Prop}{w:World}{p o e:Nat}{cs:Array Value}{v:Value}{ts:List Tx}{most:Int}(h:TxM M w p o e cs v ts most)(i:Nat):w.frozen? ⟨p,i,none⟩=false:=by simp[World.frozen?,h.box]
theorem TxM.own_ne {M:Nat→Prop}{w:World}{p o e:Nat}{cs:Array Value}{v:Value}{ts:List Tx}{most:Int}(h:TxM M w p o e cs v ts most):v.ownBlock≠some p:=fun he=>by
  obtain⟨_,c,hc⟩:=ow_block h.row.1 he
  rw[h.box] at hc
  injection hc with hc;injection hc with _ hc
  exact h.ne hc
theorem TxM.below {M:Nat→Prop}{w w':World}{p o e:Nat}{cs:Array Value}{v:Value}{ts:List Tx}{most:Int}(h:TxM M w p o e cs v ts most)(hb:Below w.heap.size w w'):TxM M w' p o e cs v ts most:=
  ⟨(hb.block p (heap_lt h.box)).trans h.box,h.at0,h.at1,h.row.below hb,h.low,h.mp,h.rise,h.ne⟩
theorem TxM.mono {M M':Nat→Prop}{w:World}{p o e:Nat}{cs:Array Value}{v:Value}{ts:List Tx}{most:Int}(h:TxM M w p o e cs v ts most)(hm : ∀k,M k→M' k):TxM M' w p o e cs v ts most:=
  ⟨h.box,h.at0,h.at1,h.row,fun k hk=>hm k (h.low k hk),hm p h.mp,h.rise,h.ne⟩
def TxPost (M:Nat→Prop)(p o e:Nat)(cs:Array Value)(ts':List Tx)(most':Int)(w w':World):Prop:=
  ∃v',TxM (Gr M w w') w' p o e ((cs.setIfInBounds o v').setIfInBounds (o+1) (.int .i64 most')) v' ts' most'∧Frm [e,102] M w w'
theorem set_same {cs:Array Value}{i:Nat}{v:Value}(h:cs[i]? = some v):cs.setIfInBounds i v=cs:=by
  apply Array.ext_getElem?
  intro j
  by_cases hj:i=j
  · subst hj
    have:=(Array.getElem?_eq_some_iff.1 h).1
    simp[this,h]
    exact (Array.getElem?_eq_some_iff.1 h).2.symm ▸ rfl
  · simp[Array.getElem?_setIfInBounds,hj]
theorem cs_at0 {cs:Array Value}{o:Nat}(v v2 u:Value)(h:cs[o]? = some v):((cs.setIfInBounds o v2).setIfInBounds (o+1) u)[o]? = some v2:=by
  have:=(Array.getElem?_eq_some_iff.1 h).1
  simp[Array.getElem?_setIfInBounds,this]
theorem cs_at1 {cs:Array Value}{o:Nat}(v v2 u:Value)(h:cs[o+1]? = some v):((cs.setIfInBounds o v2).setIfInBounds (o+1) u)[o+1]? = some u:=by
  have:=(Array.getElem?_eq_some_iff.1 h).1
  simp[Array.getElem?_setIfInBounds,this]
theorem tfind_calls (p o:Nat)(v:Value)(ts:List Tx)(n:Int)(w:World)(hp:TR w v ts)(hr:Rising (kvT ts))(hc:w.cell? ⟨p,o,none⟩=some v) :
    Calls Tryz.prog 116 #[.pointer (some ⟨p,o,none⟩),.int .i64 n] w fun e w'=>e = .returned (.tuple #[.int .i64 (tpos ts n:Nat),.bool (thas ts n)])∧Below w.heap.size w w':=by
  have HP:=Aside0.mk hp
  have HR:=Aside0.mk hr
  clear hp hr
  go_enter Tryz.func116,Tryz.ntmps116
  go_wp2_with fail
  refine (tsearch_calls v ts n _ HP.out HR.out).mono ?_
  rintro e w1 ⟨rfl,hb⟩
  have HB:=Aside0.mk hb
  clear hb
  go_wp2_with fail
  exact bodyPost_ret (v:=.tuple #[.int .i64 (tpos ts n:Nat),.bool (thas ts n)]) (by simp[results,Tryz.results116,go_sem]) rfl ⟨rfl,HB.out⟩
theorem tx_cells {w:World}{b:Nat}{x0 x1 x2 x3:Value}(h:w.heap[b]? = some (.cells #[x0,x1,x2,x3] 102 (0,0))):w.cell? ⟨b,0,none⟩=some x0∧w.cell? ⟨b,1,none⟩=some x1∧w.cell? ⟨b,2,none⟩=some x2∧w.cell? ⟨b,3,none⟩=some x3∧w.frozen? ⟨b,0,none⟩=false∧w.frozen? ⟨b,1,none⟩=false∧w.frozen? ⟨b,2,none⟩=false∧w.frozen? ⟨b,3,none⟩=false:=by
  refine⟨?_,?_,?_,?_,?_,?_,?_,?_⟩<;>simp[World.cell?,World.frozen?,h]
def txV (t:Tx):Value:=.agg #[.int .i64 t.id,.int .i64 t.state,.int .i64 t.last,.int .i64 t.next]
theorem tget_calls (p o:Nat)(v:Value)(ts:List Tx)(n:Int)(w:World)(hp:TR w v ts)(hr:Rising (kvT ts))(hc:w.cell? ⟨p,o,none⟩=some v) :
    Calls Tryz.prog 113 #[.pointer (some ⟨p,o,none⟩),.int .i64 n] w fun e w'=>e = .returned (.tuple #[txV (tget ts n),.bool (thas ts n)])∧Below w.heap.size w w':=by
  have HP:=Aside0.mk hp
  have HC:=Aside0.mk hc
  have HFIND:=Aside0.mk (fun (W:World) (hb:Below w.heap.size w W)=>tfind_calls p o v ts n W (hp.below hb) hr (pw_cell_below hb hc))
  clear hp hr hc
  obtain⟨k,hk⟩ : ∃k:Int,((tpos ts n:Nat):Int)=k:=⟨_,rfl⟩
  cases hh:thas ts n with
  | false=>
    have HF:=Aside0.mk (show tget ts n=tx0 by unfold tget;rw[hh];rfl)
    have HFD':=Aside0.mk (fun (W:World) (hb:Below w.heap.size w W)=>by have h:=HFIND.out W hb;rw[hh,hk] at h;exact h)
    clear hh hk HFIND
    go_enter Tryz.func113,Tryz.ntmps113
    go_wp2_with fail
    refine (HFD'.out _ (below_alloc (Below.refl _ _) _)).mono ?_
    rintro e w1 ⟨rfl,hb⟩
    have HB:=Aside0.mk (below_step (below_alloc (Below.refl w.heap.size w) _) hb)
    have HBX:=Aside0.mk (show w1.heap[w.heap.size]? = some (.cells #[.int .i64 0,.int .i64 0,.int .i64 0,.int .i64 0] 102 (0,0)) from (hb.block w.heap.size (by simp)).trans (heap_alloc_new w _))
    obtain⟨q0,q1,q2,q3,f0,f1,f2,f3⟩:=tx_cells HBX.out
    clear hb
    go_wp2_with fail
    refine bodyPost_ret (v:=.tuple #[txV tx0,.bool false]) ?_ ?_ ?_
    case refine_3=>exact⟨by rw[HF.out],(((HB.out.setCell (Nat.le_refl _) _).setCell (Nat.le_refl _) _).setCell (Nat.le_refl _) _).setCell (Nat.le_refl _) _⟩
    case refine_2=>rfl
    simp[results,Tryz.results113,go_sem,txV,tx0,q0,q1,q2,q3]
  | true=>
    obtain⟨⟨i,st,la,ne⟩,hd,hid,hg⟩:=thas_at hh
    have HF:=Aside0.mk hg
    have HFD':=Aside0.mk (fun (W:World) (hb:Below w.heap.size w W)=>by have h:=HFIND.out W hb;rw[hh,hk] at h;exact h)
    have hlt:=(List.getElem?_eq_some_iff.1 hd).1
    have hk0:0≤k:=by omega
    have hkl:k<(ts.length:Int):=by omega
    have hkn:k.toNat=tpos ts n:=by omega
    have HD:=Aside0.mk (show ts[k.toNat]? = some ⟨i,st,la,ne⟩ by rw[hkn];exact hd)
    clear hh hk hd hlt hkn hid hg HFIND
    go_enter Tryz.func113,Tryz.ntmps113
    go_wp2_with fail
    refine (HFD'.out _ (below_alloc (Below.refl _ _) _)).mono ?_
    rintro e w1 ⟨rfl,hb⟩
    have HB:=Aside0.mk (below_step (below_alloc (Below.refl w.heap.size w) _) hb)
    have HBX:=Aside0.mk (show w1.heap[w.heap.size]? = some (.cells #[.int .i64 0,.int .i64 0,.int .i64 0,.int .i64 0] 102 (0,0)) from (hb.block w.heap.size (by simp)).trans (heap_alloc_new w _))
    obtain⟨q0,q1,q2,q3,f0,f1,f2,f3⟩:=tx_cells HBX.out
    rcases (TR.below HP.out HB.out).form with ⟨_,h0⟩ | ⟨g,c,hv,hcl,_⟩
    · rw[h0] at hkl;simp at hkl;omega
    · subst hv
      obtain⟨hc0,hc1,hc2,hc3⟩:=hcl _ _ HD.out
      have hcv:=pw_cell_below HB.out HC.out
      clear hb hcl
      go_wp2_with fail
      refine bodyPost_ret (v:=.tuple #[txV ⟨i,st,la,ne⟩,.bool true]) ?_ ?_ ?_
      case refine_3=>exact⟨by rw[HF.out],(((HB.out.setCell (Nat.le_refl _) _).setCell (Nat.le_refl _) _).setCell (Nat.le_refl _) _).setCell (Nat.le_refl _) _⟩
      case refine_2=>rfl
      simp[results,Tryz.results113,go_sem,txV,q0,q1,q2,q3]
theorem TxPost.back {M:Nat→Prop}{p o e:Nat}{cs:Array Value}{ts:List Tx}{most:Int}{w w1 w2:World}(h:TxPost M p o e cs ts most w1 w2)(hb:Below w.heap.size w w1):TxPost M p o e cs ts most w w2:=by
  obtain⟨v',h1,h2⟩:=h
  refine⟨v',h1.mono fun k hk => ?_,(Frm.of_below hb).trans h2⟩
  rcases hk with hk | ⟨a,b⟩
  · exact .inl hk
  · exact .inr ⟨Nat.le_trans hb.size a,b⟩
theorem TxPost.drew {M:Nat→Prop}{p o e:Nat}{cs:Array Value}{ts:List Tx}{most:Int}{w w1:World}(h:TxPost M p o e cs ts most w w1):TxPost M p o e cs ts most w w1.drew:=by
  obtain⟨v',⟨a,b,c,d,e1,f,g,i⟩,h2⟩:=h
  exact⟨v',⟨a,b,c,d,e1,f,g,i⟩,h2.drew⟩
theorem cs_twice {cs:Array Value}{o:Nat}(a b c d:Value):((((cs.setIfInBounds o a).setIfInBounds (o+1) b).setIfInBounds o c).setIfInBounds (o+1) d)=((cs.setIfInBounds o c).setIfInBounds (o+1) d):=by
  apply Array.ext_getElem?
  intro j
  simp only[Array.getElem?_setIfInBounds,Array.size_setIfInBounds]
  by_cases h1:o+1=j
  · simp[h1]
  · by_cases h2:o=j
    · simp[h1,h2]
    · simp[h1,h2]
theorem TxPost.trans {M:Nat→Prop}{p o e:Nat}{cs:Array Value}{ts ts':List Tx}{most most':Int}{w w1 w2:World}(h:TxPost M p o e cs ts most w w1)
    (k : ∀cs' v',TxM (Gr M w w1) w1 p o e cs' v' ts most→TxPost (Gr M w w1) p o e cs' ts' most' w1 w2):TxPost M p o e cs ts' most' w w2:=by
  obtain⟨v1,h1,h2⟩:=h
  obtain⟨v2,k1,k2⟩:=k _ _ h1
  rw[cs_twice] at k1
  exact⟨v2,k1.mono fun j hj=>Gr.trans h2.size k2.size hj,h2.transG k2⟩
theorem tx_most {M:Nat→Prop}{w:World}{p o e:Nat}{cs:Array Value}{v:Value}{ts:List Tx}{most:Int}(h:TxM M w p o e cs v ts most)(m:Int):TxPost M p o e cs ts m w (w.setCell ⟨p,o+1,none⟩ (.int .i64 m)):=by
  have hb:=heap_setCell_same w p (o+1) cs e (.int .i64 m) h.box
  refine⟨v,⟨by rw[set_same h.at0];exact hb,cs_at0 _ _ _ h.at0,cs_at1 _ _ _ h.at1,⟨ow_move h.row.1 fun k hk=>Below.heap_setCell _ _ _ _ (fun e2=>h.own_ne (by rw[hk];exact congrArg some e2)),h.row.2⟩,fun k hk=>.inl (h.low k hk),.inl h.mp,h.rise,h.ne⟩,(Frm.refl _ M w).set (fun _=>⟨h.mp,by rw[tag_of h.box];exact List.mem_cons_self⟩) _⟩
theorem tx_row {M:Nat→Prop}{w w1:World}{p o e:Nat}{cs:Array Value}{v:Value}{ts ts':List Tx}{most:Int}(h:TxM M w p o e cs v ts most)(ho:w1.ownsRow 0 102 4 v ts'.length (txCells ts'))(hl:ts'.length≤100000)(hr:Rising (kvT ts'))(hg:w.grownBy w1 v.ownBlock):TxPost M p o e cs ts' most w w1:=by
  refine⟨v,⟨?_,cs_at0 _ _ _ h.at0,cs_at1 _ _ _ h.at1,⟨ho,hl⟩,fun k hk=>.inl (h.low k hk),.inl h.mp,hr,h.ne⟩,(Frm.refl _ _ w).grown hg (fun k hk hlt=>⟨h.low k hk,by obtain⟨_,c,hc⟩:=ow_block h.row.1 hk;rw[tag_of hc];exact List.mem_cons_of_mem _ List.mem_cons_self⟩)⟩
  rw[set_same h.at0,set_same h.at1]
  exact (hg.block p (heap_lt h.box) (fun e=>h.own_ne e.symm)).trans h.box
theorem txCells_modify (ts:List Tx)(k:Nat)(t:Tx)(hk:ts[k]? = some t)(l n:Int):txCells (ts.modify k fun t=>⟨t.id,t.state,l,n⟩)=setL (txCells ts) (k*4+2) [.int .i64 l,.int .i64 n]:=by
  induction ts generalizing k with
  | nil=>simp at hk
  | cons x ts ih=>
    cases k with
    | zero=>simp[txCells,setL,List.modify_zero_cons]
    | succ k=>
      have:=ih k (by simpa using hk)
      rw[List.modify_succ_cons]
      unfold txCells at this ⊢
      simp only[List.flatMap_cons]
      rw[this,show (k+1)*4+2=k*4+2+1+1+1+1 from by omega]
      simp[setL]
theorem txCells_modify1 (ts:List Tx)(k:Nat)(t:Tx)(hk:ts[k]? = some t)(s:Int):txCells (ts.modify k fun t=>⟨t.id,s,t.last,t.next⟩)=setL (txCells ts) (k*4+1) [.int .i64 s]:=by
  induction ts generalizing k with
  | nil=>simp at hk
  | cons x ts ih=>
    cases k with
    | zero=>simp[txCells,setL,List.modify_zero_cons]
    | succ k=>
      have:=ih k (by simpa using hk)
      rw[List.modify_succ_cons]
      unfold txCells at this ⊢
      simp only[List.flatMap_cons]
      rw[this,show (k+1)*4+1=k*4+1+1+1+1+1 from by omega]
      simp[setL]
theorem tnote_calls (M:Nat→Prop)(p o e:Nat)(cs:Array Value)(v:Value)(ts:List Tx)(most id l n:Int)(w:World)(h:TxM M w p o e cs v ts most)(hh:thas ts id=true) :
    Calls Tryz.prog 66 #[.pointer (some ⟨p,o,none⟩),.int .i64 id,.int .i64 l,.int .i64 n] w fun e' w'=>e' = .returned (.bool true)∧TxPost M p o e cs (tnote ts id l n) most w w':=by
  have HT:=Aside0.mk h
  have HFIND:=Aside0.mk (tfind_calls p o v ts id w h.row h.rise h.cell.1)
  obtain⟨t,hd,hid,hg⟩:=thas_at hh
  have hlt:=(List.getElem?_eq_some_iff.1 hd).1
  obtain⟨k,hk⟩ : ∃k:Nat,tpos ts id=k:=⟨_,rfl⟩
  rw[hk] at hd hlt
  have HD:=Aside0.mk hd
  have HTN:=Aside0.mk (show tnote ts id l n=ts.modify k fun t=>⟨t.id,t.state,l,n⟩ by unfold tnote;rw[if_pos hh,hk])
  have HRI:=Aside0.mk (tnote_rise (id:=id) (l:=l) (n:=n) h.rise)
  have hf:=HFIND.out
  rw[hh,hk] at hf
  have HFD:=Aside0.mk hf
  have hkl:(k:Int)<(ts.length:Int):=by omega
  have hk0:(0:Int)≤(k:Int):=by omega
  clear h HFIND hg hf hh hk hd
  go_enter Tryz.func66,Tryz.ntmps66
  go_wp2_with fail
  refine HFD.out.mono ?_
  rintro e1 w1 ⟨rfl,hb⟩
  have HT1:=Aside0.mk (HT.out.below hb)
  have HB:=Aside0.mk hb
  have hc0:=HT1.out.cell.1
  rcases HT1.out.row.form with ⟨_,h0⟩ | ⟨g,c,hv,hcl,hgl⟩
  · rw[h0] at hlt;simp at hlt
  · subst hv
    obtain⟨c0,c1,c2,c3⟩:=hcl _ _ HD.out
    obtain⟨_,cur,hcur⟩:=ow_block HT1.out.row.1 (show (Value.slice (some ⟨g,0,none⟩) ts.length c).ownBlock=some g from rfl)
    have f2:w1.frozen? ⟨g,k*4+2,none⟩=false:=by simp[World.frozen?,hcur]
    have f3:w1.frozen? ⟨g,k*4+3,none⟩=false:=by simp[World.frozen?,hcur]
    have hgp:g≠p:=fun e=>HT1.out.own_ne (by rw[e];rfl)
    have hpg:p≠g:=fun e=>hgp e.symm
    clear hcl hcur hb
    go_wp2_with fail
    go_region
    obtain⟨ho,hgr⟩:=own_setCells [.int .i64 l,.int .i64 n] (k*4+2) w1 _ HT1.out.row.1
    have hP:=tx_row (w1:=(w1.setCells g (k*4+2) [.int .i64 l,.int .i64 n]).drew) (ts':=tnote ts id l n) HT1.out (by
      rw[HTN.out,List.length_modify,txCells_modify ts k _ HD.out l n]
      exact ho) (by rw[HTN.out,List.length_modify];exact HT.out.row.2) HRI.out ⟨hgr.os,hgr.tape,hgr.output,hgr.size,hgr.block⟩
    have HP:=Aside0.mk (hP.back HB.out)
    have hcc:(w1.setCell ⟨g,k*4+2,none⟩ (.int .i64 l)).setCell ⟨g,k*4+3,none⟩ (.int .i64 n)=w1.setCells g (k*4+2) [.int .i64 l,.int .i64 n]:=rfl
    rw[hcc]
    clear ho hgr hP hcc
    go_wp2_with fail
    go_ret
    exact⟨by simp,HP.out⟩
theorem tstate_calls (M:Nat→Prop)(p o e:Nat)(cs:Array Value)(v:Value)(ts:List Tx)(most id s:Int)(w:World)(h:TxM M w p o e cs v ts most)(hh:thas ts id=true) :
    Calls Tryz.prog 75 #[.pointer (some ⟨p,o,none⟩),.int .i64 id,.int .i64 s] w fun e' w'=>e' = .returned (.bool true)∧TxPost M p o e cs (tstate ts id s) most w w':=by
  have HT:=Aside0.mk h
  have HFIND:=Aside0.mk (tfind_calls p o v ts id w h.row h.rise h.cell.1)
  obtain⟨t,hd,hid,hg⟩:=thas_at hh
  have hlt:=(List.getElem?_eq_some_iff.1 hd).1
  obtain⟨k,hk⟩ : ∃k:Nat,tpos ts id=k:=⟨_,rfl⟩
  rw[hk] at hd hlt
  have HD:=Aside0.mk hd
  have HTN:=Aside0.mk (show tstate ts id s=ts.modify k fun t=>⟨t.id,s,t.last,t.next⟩ by unfold tstate;rw[if_pos hh,hk])
  have HRI:=Aside0.mk (tstate_rise (id:=id) (s:=s) h.rise)
  have hf:=HFIND.out
  rw[hh,hk] at hf
  have HFD:=Aside0.mk hf
  have hkl:(k:Int)<(ts.length:Int):=by omega
  have hk0:(0:Int)≤(k:Int):=by omega
  clear h HFIND hg hf hh hk hd
  go_enter Tryz.func75,Tryz.ntmps75
  go_wp2_with fail
  refine HFD.out.mono ?_
  rintro e1 w1 ⟨rfl,hb⟩
  have HT1:=Aside0.mk (HT.out.below hb)
  have HB:=Aside0.mk hb
  have hc0:=HT1.out.cell.1
  rcases HT1.out.row.form with ⟨_,h0⟩ | ⟨g,c,hv,hcl,hgl⟩
  · rw[h0] at hlt;simp at hlt
  · subst hv
    obtain⟨c0,c1,c2,c3⟩:=hcl _ _ HD.out
    obtain⟨_,cur,hcur⟩:=ow_block HT1.out.row.1 (show (Value.slice (some ⟨g,0,none⟩) ts.length c).ownBlock=some g from rfl)
    have f1:w1.frozen? ⟨g,k*4+1,none⟩=false:=by simp[World.frozen?,hcur]
    clear hcl hcur hb
    obtain⟨ho,hgr⟩:=own_setCells [.int .i64 s] (k*4+1) w1 _ HT1.out.row.1
    have hP:=tx_row (w1:=(w1.setCells g (k*4+1) [.int .i64 s])) (ts':=tstate ts id s) HT1.out (by
      rw[HTN.out,List.length_modify,txCells_modify1 ts k _ HD.out s]
      exact ho) (by rw[HTN.out,List.length_modify];exact HT.out.row.2) HRI.out hgr
    have HP:=Aside0.mk (show TxPost M p o e cs (tstate ts id s) most w (w1.setCell ⟨g,k*4+1,none⟩ (.int .i64 s)) from hP.back HB.out)
    clear ho hgr hP
    go_wp2_with fail
    go_ret
    exact⟨by simp,by first | exact HP.out | exact HP.out.drew⟩
theorem txCells_erase (ts:List Tx)(k:Nat):txCells (ts.eraseIdx k)=(txCells ts).take (k*4)++(txCells ts).drop ((k+1)*4):=by
  rw[List.eraseIdx_eq_take_drop_succ,txCells_append,(txCells_cut ts k).1,(txCells_cut ts (k+1)).2]
theorem tx_put {M:Nat→Prop}{w w1:World}{p o e:Nat}{cs:Array Value}{v v':Value}{ts ts':List Tx}{most:Int}(h:TxM M w p o e cs v ts most)(ho:w1.ownsRow 0 102 4 v' ts'.length (txCells ts'))(hl:ts'.length≤100000)(hr:Rising (kvT ts'))(hg:w.grownBy w1 v.ownBlock)
    (hat:v'.ownBlock=v.ownBlock∨∀k,v'.ownBlock=some k→w.heap.size≤k):TxPost M p o e cs ts' most w (w1.setCell ⟨p,o,none⟩ v'):=by
  have hpl:=heap_lt h.box
  have hb1:w1.heap[p]? = some (.cells cs e (0,0)):=(hg.block p hpl (fun e=>h.own_ne e.symm)).trans h.box
  have hne:v'.ownBlock≠some p:=fun e=>by
    obtain⟨_,c,hc⟩:=ow_block ho e
    rw[hb1] at hc
    injection hc with hc;injection hc with _ hc
    exact h.ne hc
  have hF1:Frm [e,102] M w w1:=(Frm.refl _ M w).grown hg (fun k hk hlt=>⟨h.low k hk,by obtain⟨_,c,hc⟩:=ow_block h.row.1 hk;rw[tag_of hc];exact List.mem_cons_of_mem _ List.mem_cons_self⟩)
  refine⟨v',⟨?_,cs_at0 _ _ _ h.at0,cs_at1 _ _ _ h.at1,⟨ow_move ho fun k hk=>Below.heap_setCell _ _ _ _ (fun e=>hne (by rw[hk];exact congrArg some e)),hl⟩,fun k hk => ?_,.inl h.mp,hr,h.ne⟩,hF1.set (fun _=>⟨h.mp,by rw[tag_of h.box];exact List.mem_cons_self⟩) _⟩
  · have e1:(cs.setIfInBounds o v')[o+1]? = some (.int .i64 most):=by
      have:=h.at1
      simp[Array.getElem?_setIfInBounds]
      exact this
    rw[set_same e1]
    exact heap_setCell_same _ _ _ _ _ _ hb1
  · rcases hat with hat | hat
    · exact .inl (h.low k (hat ▸ hk))
    · obtain⟨_,c,hc⟩:=ow_block ho hk
      exact .inr ⟨hat k hk,by simpa [World.setCell] using heap_lt hc⟩
theorem tdrop_calls (M:Nat→Prop)(p o e:Nat)(cs:Array Value)(v:Value)(ts:List Tx)(most id:Int)(w:World)(h:TxM M w p o e cs v ts most)(hh:thas ts id=true) :
    Calls Tryz.prog 64 #[.pointer (some ⟨p,o,none⟩),.int .i64 id] w fun e' w'=>e' = .returned (.bool true)∧TxPost M p o e cs (tdrop ts id) most w w':=by
  have HT:=Aside0.mk h
  have HFIND:=Aside0.mk (tfind_calls p o v ts id w h.row h.rise h.cell.1)
  obtain⟨t,hd,hid,hg⟩:=thas_at hh
  have hkl:=(List.getElem?_eq_some_iff.1 hd).1
  have hl9:ts.length≤100000:=h.row.2
  obtain⟨k,hk⟩ : ∃k:Nat,tpos ts id=k:=⟨_,rfl⟩
  rw[hk] at hd hkl
  have HTN:=Aside0.mk (show tdrop ts id=ts.eraseIdx k by unfold tdrop;rw[if_pos hh,hk])
  have HRI:=Aside0.mk (tdrop_rise (id:=id) h.rise)
  have hf:=HFIND.out
  rw[hh,hk] at hf
  have HFD:=Aside0.mk hf
  clear h HFIND hg hf hh hk hd
  go_enter Tryz.func64,Tryz.ntmps64
  go_wp2_with fail
  refine HFD.out.mono ?_
  rintro e1 w1 ⟨rfl,hb⟩
  have HB:=Aside0.mk hb
  have ht1:=HT.out.below hb
  have hc0:=ht1.cell.1
  have HT1:=Aside0.mk ht1
  obtain⟨g,cap,hv,_,_⟩:=ht1.row.1.form (by omega)
  clear hb ht1
  subst hv
  go_wp2_with fail
  have hj1:(k:Int)+1=((k+1:Nat):Int):=by omega
  rw[hj1]
  clear hj1
  refine (del_txns 0 g ts.length cap k (k+1) (txCells ts) _ HT1.out.row.1 (txCells_one ts) hkl rfl).mono ?_
  rintro e2 w2 ⟨rfl,ho,hg,hz⟩
  have HO2:=Aside0.mk ho
  have HG2:=Aside0.mk hg
  have hb2:w2.heap[p]? = some (.cells cs e (0,0)):=(hg.block p (heap_lt HT1.out.box) (fun e=>HT1.out.own_ne e.symm)).trans HT1.out.box
  have hz2:w2.frozen? ⟨p,o,none⟩=false:=by simp[World.frozen?,hb2]
  have hc2:w2.cell? ⟨p,o,none⟩=some (.slice (some ⟨g,0,none⟩) ts.length cap):=by simp only[World.cell?,hb2];simpa using HT1.out.at0
  have hlen:(tdrop ts id).length=ts.length - 1:=by rw[HTN.out,List.length_eraseIdx,if_pos hkl]
  have hP:=tx_put HT1.out (w1:=w2) (v':=.slice (some ⟨g,0,none⟩) (ts.length - 1) cap) (ts':=tdrop ts id) (by rw[hlen,HTN.out,txCells_erase];exact ho) (by omega) HRI.out hg (.inl rfl)
  have HP:=Aside0.mk (hP.back HB.out)
  clear ho hg hb2 hz hP hlen
  go_wp2_with fail
  go_ret
  exact⟨by simp,by first | exact HP.out | exact HP.out.drew⟩
theorem tall_calls (p o:Nat)(v:Value)(ts:List Tx)(w:World)(hp:TR w v ts)(hc:w.cell? ⟨p,o,none⟩=some v) :
    Calls Tryz.prog 79 #[.pointer (some ⟨p,o,none⟩)] w fun e w' => ∃v',e = .returned v'∧TR w' v' ts∧Below w.heap.size w w':=by
  obtain⟨A,cap,hv,_⟩:=ow_slice hp.1
  have HC:=Aside0.mk (clone_txns v ts.length (txCells ts) w hp.rd (txCells_one ts))
  have HL:=Aside0.mk hp.2
  clear hp
  subst hv
  go_enter Tryz.func79,Tryz.ntmps79
  go_wp2_with fail
  refine HC.out.mono ?_
  rintro e w1 ⟨v1,rfl,ho,hb⟩
  have HO:=Aside0.mk ho
  have HB:=Aside0.mk hb
  obtain⟨A1,c1,rfl,_⟩:=ow_slice ho
  clear ho hb
  go_wp2_with fail
  go_ret
  exact⟨_,rfl,⟨by simpa using ow_base HO.out (Nat.zero_le _),HL.out⟩,HB.out⟩
theorem tmost_calls (p o:Nat)(most:Int)(w:World)(hc:w.cell? ⟨p,o+1,none⟩=some (.int .i64 most)) :
    Calls Tryz.prog 98 #[.pointer (some ⟨p,o,none⟩)] w fun e w'=>e = .returned (.int .i64 most)∧w=w':=by
  go_enter Tryz.func98,Tryz.ntmps98
  go_wp2
  go_ret
  simp
theorem tseen_calls (p o:Nat)(most id:Int)(w:World)(hc:w.cell? ⟨p,o+1,none⟩=some (.int .i64 most))(hf:w.frozen? ⟨p,o+1,none⟩=false) :
    Calls Tryz.prog 111 #[.pointer (some ⟨p,o,none⟩),.int .i64 id] w fun e w'=>e = .returned (.tuple #[])∧w'=w.setCell ⟨p,o+1,none⟩ (.int .i64 (imax most id)):=by
  go_enter Tryz.func111,Tryz.ntmps111
  go_wp2
  go_end0
  simp
theorem tadd_calls (M:Nat→Prop)(p o e:Nat)(cs:Array Value)(v:Value)(ts:List Tx)(most:Int)(x:Tx)(w:World)(h:TxM M w p o e cs v ts most)(hlt : ∀t∈ts,t.id<x.id)(hl:ts.length≤90000)(hm:most≤x.id) :
    Calls Tryz.prog 114 #[.pointer (some ⟨p,o,none⟩),txV x] w fun e' w'=>e' = .returned (.tuple #[])∧TxPost M p o e cs (ts++[x]) x.id w w':=by
  have HT:=Aside0.mk h
  obtain⟨hh,_,hk⟩:=tadd_last hlt
  have HFIND:=Aside0.mk (fun (W:World) (hb:Below w.heap.size w W)=>by
    have h2:=tfind_calls p o v ts x.id W (h.row.below hb) h.rise (pw_cell_below hb h.cell.1)
    rw[hh,hk] at h2
    exact h2)
  obtain⟨id,st,la,ne⟩:=x
  have HRI:=Aside0.mk (show Rising (kvT (ts++[⟨id,st,la,ne⟩])) by
    unfold kvT Rising
    rw[List.map_append,List.pairwise_append]
    refine⟨h.rise,List.pairwise_singleton _ _,fun a ha b hb => ?_⟩
    obtain⟨y,hy,rfl⟩:=List.mem_map.1 ha
    simp at hb
    subst hb
    exact hlt y hy)
  have HM:=Aside0.mk (show imax most id=id by unfold imax;simp only at hm;split<;>omega)
  have hpl:=heap_lt h.box
  simp only[txV] at *
  clear h hlt hm hh hk
  go_enter Tryz.func114,Tryz.ntmps114
  go_wp2_with fail
  refine (HFIND.out _ (below_alloc (Below.refl _ _) _)).mono ?_
  rintro e1 w1 ⟨rfl,hb⟩
  have HB:=Aside0.mk (below_step (below_alloc (Below.refl w.heap.size w) _) hb)
  have HBX:=Aside0.mk (show w1.heap[w.heap.size]? = some (.cells #[.int .i64 id,.int .i64 st,.int .i64 la,.int .i64 ne] 102 (0,0)) from (hb.block w.heap.size (by simp)).trans (heap_alloc_new w _))
  obtain⟨q0,q1,q2,q3,f0,f1,f2,f3⟩:=tx_cells HBX.out
  have HT1:=Aside0.mk (HT.out.below HB.out)
  have hc0:=HT1.out.cell.1
  obtain⟨A,cap,hv,_⟩:=ow_slice HT1.out.row.1
  clear hb
  subst hv
  go_wp2_with fail
  have HVN:=Aside0.mk (show (Value.slice A ts.length cap).ownBlock≠some w1.heap.size from fun e=>by
    obtain⟨_,c,hc⟩:=ow_block HT1.out.row.1 e
    have:=heap_lt hc
    omega)
  have hp1:=heap_lt HT1.out.box
  go_region_law (first | (go_simp;go_at_call 162;refine (ins_txns 0 ts.length ts.length w1.heap.size (.slice A ts.length cap) (txCells ts) [.int .i64 id,.int .i64 st,.int .i64 la,.int .i64 ne] _ (by exact ow_below HT1.out.row.1 (by repeat (first | exact Below.refl _ _ | apply below_drew1 | apply below_alloc))) (txCells_one ts) (by omega) (Nat.le_refl _) (by exact heap_alloc_new w1 _) HVN.out rfl (by intro u hu;simp at hu;rcases hu with rfl | rfl | rfl | rfl<;>rfl) (Nat.zero_le _)).mono ?_;rintro e2 w2 ⟨v',rfl,ho,hg,hat⟩;obtain⟨A2,c2,rfl,_⟩:=ow_slice ho;have hb2:w2.heap[p]? = some (.cells cs e (0,0)):=(hg.block p (by show p<(w1.heap.push _).size;rw[Array.size_push];omega) (fun e=>HT1.out.own_ne e.symm)).trans ((show Below w1.heap.size w1 _ by repeat (first | exact Below.refl _ _ | apply below_drew1 | apply below_alloc)).block _ hp1 |>.trans HT1.out.box);have hz2:w2.frozen? ⟨p,o,none⟩=false:=(by simp[World.frozen?,hb2]);have hc2:w2.cell? ⟨p,o,none⟩=some (.slice A ts.length cap):=(by simp only[World.cell?,hb2];simpa using HT1.out.at0)))
  all_goals
    have HG2:=Aside0.mk hg
    have hgr:w1.grownBy w2 (Value.slice A ts.length cap).ownBlock:=⟨hg.os,hg.tape,hg.output,Nat.le_trans (by show w1.heap.size≤(w1.heap.push _).size;rw[Array.size_push];omega) hg.size,fun j hj hne=>(hg.block j (by show j<(w1.heap.push _).size;rw[Array.size_push];omega) hne).trans (Below.heap_alloc _ _ _ hj)⟩
    have hrow:(txCells ts).take (ts.length*4)++([Value.int .i64 id,.int .i64 st,.int .i64 la,.int .i64 ne]++(txCells ts).drop (ts.length*4))=txCells (ts++[⟨id,st,la,ne⟩]):=by
      rw[←txCells_len,List.take_length,List.drop_length,txCells_append]
      simp[txCells]
    have hP:=tx_put HT1.out (w1:=w2) (v':=.slice A2 (ts.length+1) c2) (ts':=ts++[⟨id,st,la,ne⟩]) (by rw[List.length_append,←hrow];exact ho) (by rw[List.length_append];simp;omega) HRI.out hgr (by
      rcases hat with h | h
      · exact .inl h
      · exact .inr fun j hj=>Nat.le_trans (by show w1.heap.size≤(w1.heap.push _).size;rw[Array.size_push];omega) (h j hj))
    have HP3:=Aside0.mk (hP.back HB.out)
    have hbx2:w2.heap[w.heap.size]? = some (.cells #[.int .i64 id,.int .i64 st,.int .i64 la,.int .i64 ne] 102 (0,0)):=(hgr.block w.heap.size (heap_lt HBX.out) (fun e=>by
      obtain⟨_,c,hc⟩:=ow_block HT.out.row.1 e.symm
      have:=heap_lt hc
      omega)).trans HBX.out
    have q4:(w2.setCell ⟨p,o,none⟩ (.slice A2 (ts.length+1) c2)).cell? ⟨w.heap.size,0,none⟩=some (.int .i64 id):=by
      rw[World.cell?_setCell_other _ _ _ _ (by intro e;injection e with e _ _;omega)]
      simp[World.cell?,hbx2]
    obtain⟨w3,hw3⟩ : ∃w3,w2.setCell ⟨p,o,none⟩ (.slice A2 (ts.length+1) c2)=w3:=⟨_,rfl⟩
    rw[hw3] at HP3 q4 ⊢
    clear hw3 hg ho hat hgr hrow hP hbx2 hb2 hz2 hc2 q0 q1 q2 q3 f0 f1 f2 f3 hc0
    obtain⟨v3,hT3,hF3⟩:=HP3.out
    have HT3:=Aside0.mk hT3
    have HC3:=Aside0.mk hT3.cell.2
    have HZ3:=Aside0.mk (hT3.frozen (o+1))
    clear hT3 hF3
    go_wp2_with fail
    refine (tseen_calls p o most id _ HC3.out HZ3.out).mono ?_
    rintro e3 w4 ⟨rfl,rfl⟩
    rw[HM.out]
    go_wp2_with fail
    go_end0
    exact⟨rfl,HP3.out.trans (fun cs' v' h=>tx_most h id)⟩
theorem tbegin_calls (M:Nat→Prop)(p o e:Nat)(cs:Array Value)(v:Value)(ts:List Tx)(most:Int)(w:World)(h:TxM M w p o e cs v ts most)(hlt : ∀t∈ts,t.id≤most)(hl:ts.length≤90000)(hm:0≤most∧most<60000) :
    Calls Tryz.prog 62 #[.pointer (some ⟨p,o,none⟩)] w fun e' w'=>e' = .returned (.tuple #[.int .i64 (most+1),.bool true])∧TxPost M p o e cs (ts++[⟨most+1,0,0,0⟩]) (most+1) w w':=by
  have HADD:=Aside0.mk (tadd_calls M p o e cs v ts most ⟨most+1,0,0,0⟩ w h (fun t ht=>by have:=hlt t ht;show t.id<most+1;omega) hl (by show most≤most+1;omega))
  have hc1:=h.cell.2
  have h0:=hm.1
  have h1:=hm.2
  simp only[txV] at HADD
  clear h hlt
  have hd:decide (60000≤most)=false:=decide_eq_false (by omega)
  go_enter Tryz.func62,Tryz.ntmps62
  go_wp2_with fail
  refine HADD.out.mono ?_
  rintro e1 w1 ⟨rfl,hp⟩
  have HP:=Aside0.mk hp
  obtain⟨v3,hT3,hF3⟩:=hp
  have hc3:=hT3.cell.2
  clear hT3 hF3
  go_wp2_with fail
  exact bodyPost_ret (v:=.tuple #[.int .i64 (most+1),.bool true]) (by simp[results,Tryz.results62,go_sem]) rfl ⟨rfl,HP.out⟩
end Go.Proofs.YtaplpeoikebedaaGreatDoor.TransT
