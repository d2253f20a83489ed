/- Joined texts: Page, PageB. No condition but what each says. -/
import Derived.Test.YtaplpeoikebedaaGreatDoorY3
set_option maxHeartbeats 8000000
set_option maxRecDepth 100000
set_option linter.unusedVariables false
set_option linter.unusedSimpArgs false
namespace Go.Proofs.YtaplpeoikebedaaGreatDoor.Page
open Go.RowKit YtaplpeoikebedaaGreatDoorW.PrintWords YtaplpeoikebedaaGreatDoorW.PrintLast YtaplpeoikebedaaGreatDoorW.PrintMore
open See Mem Clone Go.Proofs.YtaplpeoikebedaaGreatDoor.Cell
attribute [local go_sem] max2_int min2_int max_two min_two
def errv (a:Nat→Addr):Option Nat→Value
  | none=>.nilIface
  | some k=>.iface 333 (.pointer (some (a k)))
def cells2 (es:List (Int×Int)):List Value:=es.flatMap fun e=>[.int .i64 e.1,.int .i64 e.2]
theorem cells2_append (es fs:List (Int×Int)):cells2 (es++fs)=cells2 es++cells2 fs:=by unfold cells2;rw[List.flatMap_append]
theorem cells2_snoc (es:List (Int×Int))(e:Int×Int):cells2 (es++[e])=cells2 es++[.int .i64 e.1,.int .i64 e.2]:=by rw[cells2_append];rfl
theorem cells2_one : ∀(es:List (Int×Int)),∀u∈cells2 es,u.oneCell'=true:=fun es u hu=>by
  obtain⟨e,_,h⟩:=List.mem_flatMap.1 hu
  simp at h
  rcases h with rfl | rfl<;>rfl
theorem cells2_at : ∀(es:List (Int×Int)) (i:Nat) (e:Int×Int),es[i]? = some e→(cells2 es)[i*2]? = some (.int .i64 e.1)∧(cells2 es)[i*2+1]? = some (.int .i64 e.2)
  | [],i,t,h=>by simp at h
  | s :: ps,0,t,h=>by
    simp at h;subst h
    exact⟨by simp[cells2,List.flatMap_cons],by simp[cells2,List.flatMap_cons]⟩
  | s :: ps,i+1,t,h=>by
    have:=cells2_at ps i t (by simpa using h)
    have e:cells2 (s :: ps)=[.int .i64 s.1,.int .i64 s.2]++cells2 ps:=by simp[cells2,List.flatMap_cons]
    rw[e,List.getElem?_append_right (by simp;omega),List.getElem?_append_right (by simp;omega)]
    simp only[List.length_cons,List.length_nil]
    rw[show (i+1)*2 - (0+1+1)=i*2 from by omega,show (i+1)*2+1 - (0+1+1)=i*2+1 from by omega]
    exact this
def P2 (w:World)(t:Nat)(v:Value)(es:List (Int×Int)):Prop:=w.ownsRow 0 t 2 v es.length (cells2 es)∧es.length≤100000
theorem P2.nil (w:World)(t:Nat):P2 w t (.slice none 0 0) []:=⟨⟨rfl,.inl ⟨rfl,rfl⟩⟩,by simp⟩
theorem P2.below {w w':World}{t:Nat}{v:Value}{es:List (Int×Int)}(h:P2 w t v es)(hb:Below w.heap.size w w'):P2 w' t v es:=⟨ow_below h.1 hb,h.2⟩
theorem P2.frm {T:List Nat}{M:Nat→Prop}{w w':World}{t:Nat}{v:Value}{es:List (Int×Int)}(h:P2 w t v es)(hf:Frm T M w w')(ht:t∉T):P2 w' t v es:=⟨ow_frm h.1 hf ht,h.2⟩
theorem P2.rd {w:World}{t:Nat}{v:Value}{es:List (Int×Int)}(h:P2 w t v es):Rd w t 2 v es.length (cells2 es):=Rd.of_own h.1 (by have:=h.2;omega)
theorem P2.form {w:World}{t:Nat}{v:Value}{es:List (Int×Int)}(h:P2 w t v es):(v = .slice none 0 0∧es=[]) ∨
    ∃g cap,v = .slice (some ⟨g,0,none⟩) es.length cap∧(∀(i:Nat) (e:Int×Int),es[i]? = some e→w.cell? ⟨g,i*2,none⟩=some (.int .i64 e.1)∧w.cell? ⟨g,i*2+1,none⟩=some (.int .i64 e.2))∧g<w.heap.size:=by
  rcases h.1.2 with ⟨hv,h0⟩ | ⟨g,cap,cur,hv,hg,hh,hnc,hcm,hsz,htk⟩
  · exact .inl ⟨hv,List.eq_nil_of_length_eq_zero h0⟩
  · refine .inr ⟨g,cap,hv,fun i e hi => ?_,heap_lt hh⟩
    have hlt:i<es.length:=(List.getElem?_eq_some_iff.1 hi).1
    obtain⟨c0,c1⟩:=cells2_at es i e hi
    rw[←htk,List.getElem?_take,if_pos (by omega)] at c0
    rw[←htk,List.getElem?_take,if_pos (by omega)] at c1
    constructor
    · simp only[World.cell?,hh];simpa using c0
    · simp only[World.cell?,hh];simpa using c1
def keyOk (es:List (Int×Int))(k:Nat):Bool:=
  match es[k]? with
  | none=>true
  | some e=>decide (0≤e.1) && decide (e.1<1048576) && (k == 0 || match es[k - 1]? with | none=>true | some p=>decide (p.1<e.1))
def headOk (lsn:Int)(n:Nat):Bool:=decide (0≤lsn) && decide (lsn≤1073741824) && decide (n≤20) && !(decide (0<n) && decide (lsn=0))
def pageOk (lsn:Int)(es:List (Int×Int)):Bool:=headOk lsn es.length && (List.range es.length).all (keyOk es)
theorem pageOk_false {lsn:Int}{es:List (Int×Int)}{k:Nat}(hk:k<es.length)(h:keyOk es k=false):pageOk lsn es=false:=by
  unfold pageOk
  rw[Bool.and_eq_false_iff]
  right
  rw[List.all_eq_false]
  exact⟨k,List.mem_range.2 hk,by simp[h]⟩
theorem pageOk_true {lsn:Int}{es:List (Int×Int)}(h1:headOk lsn es.length=true)(h : ∀k,k<es.length→keyOk es k=true):pageOk lsn es=true:=by
  unfold pageOk
  rw[h1,Bool.true_and,List.all_eq_true]
  exact fun k hk=>h k (List.mem_range.1 hk)
def checkE (lsn:Int)(es:List (Int×Int)):Option Nat:=if pageOk lsn es then none else some 1
theorem check_calls (a:Nat→Addr)(lsn:Int)(sl:Value)(es:List (Int×Int))(w:World)(hs:Sents w a)(hp:P2 w 169 sl es) :
    Calls Tryz.prog 188 #[.agg #[.int .i64 lsn,sl]] w fun e w'=>e = .returned (errv a (checkE lsn es))∧Below w.heap.size w w':=by
  have hg1:w.cell? ⟨6,0,none⟩=some (.iface 333 (.pointer (some (a 1)))):=hs.cell 1 (by decide)
  obtain⟨sad,hsa⟩ : ∃x,a 1=x:=⟨_,rfl⟩
  rw[hsa] at hg1
  have HSA:=Aside0.mk hsa
  have hlt1:6<w.heap.size:=World.block_lt_of_cell? _ _ hg1
  have HP:=Aside0.mk hp
  obtain⟨A,cap,rfl,_⟩:=ow_slice hp.1
  obtain⟨n,hn⟩ : ∃n,es.length=n:=⟨_,rfl⟩
  have HN:=Aside0.mk hn
  have hmax:n≤100000:=by rw[←hn];exact hp.2
  rw[hn]
  clear hs hp hsa hn
  have HBAD:=Aside0.mk (show headOk lsn n=false→errv a (checkE lsn es) = .iface 333 (.pointer (some sad)) from fun h=>by
    have:checkE lsn es=some 1:=by unfold checkE pageOk;rw[HN.out,h];rfl
    rw[this,←HSA.out];rfl)
  rcases (show lsn<0∨(0≤lsn∧1073741824<lsn)∨(0≤lsn∧lsn≤1073741824∧(20:Int)<n)∨(lsn=0∧(n:Int)≤20∧0<n)∨(0≤lsn∧lsn≤1073741824∧n=0)∨(0<lsn∧lsn≤1073741824∧(n:Int)≤20∧0<n) by omega) with h | ⟨h,h2⟩ | ⟨h,h2,h3⟩ | ⟨h,h2,h3⟩ | ⟨h,h2,h3⟩ | ⟨h,h2,h3,h4⟩
  · have HH:=Aside0.mk (show headOk lsn n=false by unfold headOk;simp;omega)
    go_enter Tryz.func188,Tryz.ntmps188
    go_wp2
    go_ret
    exact⟨by simp[HBAD.out HH.out],below_alloc (Below.refl _ _) _⟩
  · have HH:=Aside0.mk (show headOk lsn n=false by unfold headOk;simp;omega)
    go_enter Tryz.func188,Tryz.ntmps188
    go_wp2
    go_ret
    exact⟨by simp[HBAD.out HH.out],below_alloc (Below.refl _ _) _⟩
  · have HH:=Aside0.mk (show headOk lsn n=false by unfold headOk;simp;omega)
    go_enter Tryz.func188,Tryz.ntmps188
    go_wp2
    go_ret
    exact⟨by simp[HBAD.out HH.out],below_alloc (Below.refl _ _) _⟩
  · have HH:=Aside0.mk (show headOk lsn n=false by unfold headOk;simp;omega)
    subst h
    go_enter Tryz.func188,Tryz.ntmps188
    go_wp2
    go_ret
    exact⟨by simp[HBAD.out HH.out],below_alloc (Below.refl _ _) _⟩
  · have HH:=Aside0.mk (show errv a (checkE lsn es) = .nilIface by
      have:checkE lsn es=none:=by
        unfold checkE
        rw[pageOk_true (by unfold headOk;rw[HN.out];simp;omega) (fun k hk=>by have:=HN.out;omega)];rfl
      rw[this];rfl)
    subst h3
    go_enter Tryz.func188,Tryz.ntmps188
    go_wp2_with fail
    go_loopg [34] 1 (fun kq v34 w'=>v34 = .int .i64 0∧w'=w.alloc (.cells #[.int .i64 lsn,.slice A 0 cap] 74))
    case atStart=>exact⟨rfl,rfl⟩
    case round=>
      obtain⟨rfl,rfl⟩:=hrel
      go_wp2
      go_ret
      exact⟨by simp[HH.out],below_alloc (Below.refl _ _) _⟩
  · have HH:=Aside0.mk (show headOk lsn n=true by unfold headOk;simp;omega)
    have hz:(lsn == 0)=false:=by simp;omega
    obtain⟨g,rfl⟩ : ∃g,A=some ⟨g,0,none⟩:=by
      rcases HP.out.form with ⟨_,he⟩ | ⟨g,c,hv,_⟩
      · have:=HN.out;rw[he] at this;simp at this;omega
      · injection hv with h1;exact⟨g,h1⟩
    have hcell:Aside0 (∀(i:Nat) (e:Int×Int),es[i]? = some e→w.cell? ⟨g,i*2,none⟩=some (.int .i64 e.1)∧w.cell? ⟨g,i*2+1,none⟩=some (.int .i64 e.2)):=by
      rcases HP.out.form with ⟨_,he⟩ | ⟨g',c,hv,hc,_⟩
      · have:=HN.out;rw[he] at this;simp at this;omega
      · injection hv with h1;injection h1 with h1;injection h1 with h1;subst h1;exact⟨hc⟩
    have HGL:Aside0 (g<w.heap.size):=by
      rcases HP.out.form with ⟨_,he⟩ | ⟨g',c,hv,hc,hl⟩
      · have:=HN.out;rw[he] at this;simp at this;omega
      · injection hv with h1;injection h1 with h1;injection h1 with h1;subst h1;exact⟨hl⟩
    go_enter Tryz.func188,Tryz.ntmps188
    go_wp2_with fail
    go_loopg [34] (n+1) (fun kq v34 w' => ∃i:Int,v34 = .int .i64 i∧Aside0 (0≤i∧i≤n∧(kq:Int)=n+1 - i∧∀k:Nat,(k:Int)<i→keyOk es k=true)∧Aside0 (Below (w.heap.size+1) (w.alloc (.cells #[.int .i64 lsn,.slice (some ⟨g,0,none⟩) n cap] 74)) w'))
    case atStart=>exact⟨0,rfl,⟨by omega,by omega,by omega,fun k hk=>by omega⟩,⟨Below.refl _ _⟩⟩
    case round=>
      obtain⟨i,rfl,HI,HB⟩:=hrel
      have hi0:0≤i:=HI.out.1
      have hg1':wr.cell? ⟨6,0,none⟩=some (.iface 333 (.pointer (some sad))):=by
        rw[HB.out.cell (p:=⟨6,0,none⟩) (by show 6<_;omega),World.cell?_alloc_lt _ _ _ (by exact hlt1)];exact hg1
      have hw1:wr.cell? ⟨w.heap.size,1,none⟩=some (.slice (some ⟨g,0,none⟩) n cap):=by
        rw[HB.out.cell (p:=⟨w.heap.size,1,none⟩) (by simp)];simp
      have hlts:w.heap.size<wr.heap.size:=by have:=HB.out.size;simp at this;omega
      have hls:6<wr.heap.size:=by omega
      by_cases hlt:i<n
      · obtain⟨e,he⟩ : ∃e,es[i.toNat]? = some e:=⟨_,List.getElem?_eq_getElem (by have:=HN.out;omega)⟩
        obtain⟨hc0,hc1⟩:=hcell.out i.toNat e he
        have hd0:wr.cell? ⟨g,i.toNat*2,none⟩=some (.int .i64 e.1):=by
          rw[HB.out.cell (p:=⟨g,_,none⟩) (by have:=HGL.out;show g<_;omega),World.cell?_alloc_lt _ _ _ (by exact HGL.out)];exact hc0
        have hd1:wr.cell? ⟨g,i.toNat*2+1,none⟩=some (.int .i64 e.2):=by
          rw[HB.out.cell (p:=⟨g,_,none⟩) (by have:=HGL.out;show g<_;omega),World.cell?_alloc_lt _ _ _ (by exact HGL.out)];exact hc1
        clear hc0 hc1
        obtain⟨x,y⟩:=e
        simp only at hd0 hd1
        have HE:=Aside0.mk he
        have HBK:=Aside0.mk (show keyOk es i.toNat=false→errv a (checkE lsn es) = .iface 333 (.pointer (some sad)) from fun h=>by
          have:checkE lsn es=some 1:=by unfold checkE;rw[pageOk_false (by have:=HN.out;omega) h];rfl
          rw[this,←HSA.out];rfl)
        have HBB:=Aside0.mk ((below_alloc (Below.refl w.heap.size w) (.cells #[.int .i64 lsn,.slice (some ⟨g,0,none⟩) n cap] 74)).trans (HB.out.mono (Nat.le_succ _)))
        clear he
        rcases (show x<0∨(0≤x∧1048576≤x)∨(0≤x∧x<1048576) by omega) with k1 | ⟨k1,k2⟩ | ⟨k1,k2⟩
        · replace HBK:=Aside0.mk (HBK.out (by unfold keyOk;rw[HE.out];simp;omega))
          have q1:decide (x<0)=true:=decide_eq_true k1
          go_wp2_with fail
          go_quiet (fail)
          go_wp2_with fail
          go_ret
          exact⟨by simp[HBK.out],by repeat (first | exact HBB.out | apply pw_below_drewN | apply below_drew1 | apply below_alloc)⟩
        · replace HBK:=Aside0.mk (HBK.out (by unfold keyOk;rw[HE.out];simp;omega))
          have q1:decide (x<0)=false:=decide_eq_false (by omega)
          have q2:decide (x≥1048576)=true:=decide_eq_true (by omega)
          go_wp2_with fail
          go_quiet (fail)
          go_wp2_with fail
          go_ret
          exact⟨by simp[HBK.out],by repeat (first | exact HBB.out | apply pw_below_drewN | apply below_drew1 | apply below_alloc)⟩
        · have q1:decide (x<0)=false:=decide_eq_false (by omega)
          have q2:decide (x≥1048576)=false:=decide_eq_false (by omega)
          have hgl:g<wr.heap.size:=by have:=HGL.out;omega
          rcases (show i=0∨0<i by omega) with k3 | k3
          · subst k3
            have hd0':wr.cell? ⟨g,0,none⟩=some (.int .i64 x):=hd0
            have hd1':wr.cell? ⟨g,1,none⟩=some (.int .i64 y):=hd1
            clear hd0 hd1
            have HK:=Aside0.mk (show keyOk es 0=true by unfold keyOk;rw[show es[0]? = some (x,y) from HE.out];simp;omega)
            go_wp2_with fail
            go_quiet (fail)
            go_wp2_with fail
            go_roundg (gk - 1)
            case measure=>have:=HI.out;omega
            case rel=>
              refine⟨0+1,rfl,⟨by omega,by omega,by have:=HI.out;omega,fun k hk => ?_⟩,⟨?_⟩⟩
              · rcases (show (k:Int)<0∨k=0 by omega) with h | h
                · exact HI.out.2.2.2 k h
                · subst h;exact HK.out
              · have:=HB.out
                have:=HB.out.size
                simp at this
                repeat (first | exact HB.out | apply pw_below_drewN | apply below_drew1 | refine Below.alloc ?_ (by omega) _)
          · obtain⟨⟨x',y'⟩,he'⟩ : ∃e,es[(i - 1).toNat]? = some e:=⟨_,List.getElem?_eq_getElem (by have:=HN.out;omega)⟩
            obtain⟨hc0,hc1⟩:=hcell.out (i - 1).toNat _ he'
            have hd2:wr.cell? ⟨g,(i - 1).toNat*2,none⟩=some (.int .i64 x'):=by
              rw[HB.out.cell (p:=⟨g,_,none⟩) (by have:=HGL.out;show g<_;omega),World.cell?_alloc_lt _ _ _ (by exact HGL.out)];exact hc0
            clear hc0 hc1
            have hd3:wr.cell? ⟨g,(i.toNat - 1)*2,none⟩=some (.int .i64 x'):=by rw[show i.toNat - 1=(i - 1).toNat from by omega];exact hd2
            have HE':=Aside0.mk (show es[i.toNat - 1]? = some (x',y') by rw[show i.toNat - 1=(i - 1).toNat from by omega];exact he')
            clear he'
            have q3:decide (i>0)=true:=decide_eq_true (by omega)
            have hz0:0≤i - 1:=by omega
            have hz1:i - 1<n:=by omega
            rcases (show x≤x'∨x'<x by omega) with k4 | k4
            · replace HBK:=Aside0.mk (HBK.out (by unfold keyOk;rw[HE.out,HE'.out];simp;omega))
              have q4:decide (x'≥x)=true:=decide_eq_true (by omega)
              go_wp2_with fail
              go_quiet (fail)
              go_wp2_with fail
              go_ret
              exact⟨by simp[HBK.out],by repeat (first | exact HBB.out | apply pw_below_drewN | apply below_drew1 | apply below_alloc)⟩
            · have q4:decide (x'≥x)=false:=decide_eq_false (by omega)
              have HK:=Aside0.mk (show keyOk es i.toNat=true by unfold keyOk;rw[HE.out,HE'.out];simp;omega)
              go_wp2_with fail
              go_quiet (fail)
              go_wp2_with fail
              go_roundg (gk - 1)
              case measure=>have:=HI.out;omega
              case rel=>
                refine⟨i+1,rfl,⟨by omega,by omega,by have:=HI.out;omega,fun k hk => ?_⟩,⟨?_⟩⟩
                · rcases (show (k:Int)<i∨k=i.toNat by omega) with h | h
                  · exact HI.out.2.2.2 k h
                  · subst h;exact HK.out
                · have:=HB.out
                  have:=HB.out.size
                  simp at this
                  repeat (first | exact HB.out | apply pw_below_drewN | apply below_drew1 | refine Below.alloc ?_ (by omega) _)
      · have HE:=Aside0.mk (show errv a (checkE lsn es) = .nilIface by
          have:checkE lsn es=none:=by
            unfold checkE
            rw[pageOk_true (by rw[HN.out];exact HH.out) (fun k hk=>HI.out.2.2.2 k (by have:=HI.out;have:=HN.out;omega))];rfl
          rw[this];rfl)
        go_wp2_with fail
        go_ret
        exact⟨by simp[HE.out],(below_alloc (Below.refl w.heap.size w) (.cells #[.int .i64 lsn,.slice (some ⟨g,0,none⟩) n cap] 74)).trans (HB.out.mono (Nat.le_succ _))⟩
end Go.Proofs.YtaplpeoikebedaaGreatDoor.Page
namespace Go.Proofs.YtaplpeoikebedaaGreatDoor.PageB
open Go.RowKit YtaplpeoikebedaaGreatDoorW.PrintWords YtaplpeoikebedaaGreatDoorW.PrintLast YtaplpeoikebedaaGreatDoorW.PrintMore
open See Mem Clone Go.Proofs.YtaplpeoikebedaaGreatDoor.Cell Page
attribute [local go_sem] max2_int min2_int max_two min_two
theorem bs_convert {w:World}{v:Value}{bs:List Int}(h:BS w v bs):(convert 93 9 v).run Tryz.prog w = .ok (.string (strOfNums bs)) w:=by
  rcases h.2.2 with ⟨rfl,h0⟩ | ⟨g,off,cap,cur,fz,rfl,hh,hnc,hcm,hsz,htk⟩
  · obtain rfl:=List.eq_nil_of_length_eq_zero h0
    exact run_convert_bytes_nil w _ _ Tryz.underlying93 Tryz.underlying5 0 0 _ Tryz.underlying9
  · refine run_convert_bytes_arg w _ _ Tryz.underlying93 Tryz.underlying5 g off _ cap bs rfl (fun i hi => ?_) _ Tryz.underlying9
    have:(bs.map (Value.int .u8))[i]? = some (.int .u8 (bs.getD i 0)):=by
      rw[List.getElem?_map,List.getElem?_eq_getElem hi];simp[List.getD,List.getElem?_eq_getElem hi]
    rw[←htk,List.getElem?_take,if_pos (by omega),List.getElem?_drop] at this
    simp only[World.cell?,hh]
    simpa using this
theorem strOfNums_inj : ∀{a b:List Int},IsB a→IsB b→strOfNums a=strOfNums b→a=b:=by
  intro a b ha hb h
  have h2:(a.map fun n=>UInt8.ofNat n.toNat)=b.map fun n=>UInt8.ofNat n.toNat:=by
    rw[←strOfNums_data,←strOfNums_data,h]
  clear h
  induction a generalizing b with
  | nil=>cases b with
    | nil=>rfl
    | cons y b=>simp at h2
  | cons x a ih=>cases b with
    | nil=>simp at h2
    | cons y b=>
      simp only[List.map_cons,List.cons.injEq] at h2
      obtain⟨h3,h4⟩:=h2
      obtain⟨x0,x1⟩:=ha x (List.mem_cons_self ..)
      obtain⟨y0,y1⟩:=hb y (List.mem_cons_self ..)
      have h5:=congrArg UInt8.toNat h3
      simp at h5
      have hxy:x=y:=by omega
      rw[hxy,ih (fun z hz=>ha z (List.mem_cons_of_mem _ hz)) (fun z hz=>hb z (List.mem_cons_of_mem _ hz)) h4]
theorem equal_calls (u v:Value)(a b:List Int)(w:World)(ha:BS w u a)(hb:BS w v b)(Ba:IsB a)(Bb:IsB b) :
    Calls Tryz.prog 106 #[u,v] w fun e w'=>e = .returned (.bool (decide (a=b)))∧w=w':=by
  have h1:=bs_convert ha
  have h2:=bs_convert hb
  have HE:=Aside0.mk (show ((strOfNums a).toList == (strOfNums b).toList)=decide (a=b) by
    by_cases h:a=b
    · subst h;simp
    · rw[decide_eq_false h]
      exact beq_eq_false_iff_ne.2 fun he=>h (strOfNums_inj Ba Bb (by
        rw[ByteArray.toList_eq,ByteArray.toList_eq] at he
        exact congrArg ByteArray.mk (by simpa using congrArg List.toArray he:(strOfNums a).data=(strOfNums b).data))))
  clear ha hb Ba Bb
  obtain⟨s,hs⟩ : ∃s,strOfNums a=s:=⟨_,rfl⟩
  obtain⟨t,ht⟩ : ∃t,strOfNums b=t:=⟨_,rfl⟩
  rw[hs] at h1
  rw[ht] at h2
  rw[hs,ht] at HE
  clear hs ht
  go_enter Tryz.func106,Tryz.ntmps106
  go_wp2
  go_ret
  exact⟨by simp[←HE.out],rfl⟩
def pbAdd (b:List Int)(k:Nat)(e:Int×Int):List Int:=putL (putL b (16+12*k) 4 (IntKind.u64.wrap e.1)) (16+12*k+4) 8 (IntKind.u64.wrap e.2)
def pbN (lsn:Int)(es:List (Int×Int)):Nat→List Int
  | 0=>putL (putL (List.replicate 256 0) 0 4 (IntKind.u64.wrap lsn)) 4 2 (IntKind.u64.wrap (es.length:Int))
  | i+1=>match es[i]? with
    | none=>pbN lsn es i
    | some e=>pbAdd (pbN lsn es i) i e
theorem pbAdd_len (b:List Int)(k:Nat)(e:Int×Int)(h:b.length=256)(hk:k<20):(pbAdd b k e).length=256:=by
  unfold pbAdd
  rw[putL_length _ _ _ _ (by rw[putL_length _ _ _ _ (by omega)];omega),putL_length _ _ _ _ (by omega),h]
theorem pbN_len (lsn:Int)(es:List (Int×Int)) : ∀i,i≤20→(pbN lsn es i).length=256
  | 0,_=>by unfold pbN;rw[putL_length _ _ _ _ (by rw[putL_length _ _ _ _ (by simp)];simp),putL_length _ _ _ _ (by simp),List.length_replicate]
  | i+1,h=>by
    unfold pbN
    split
    · exact pbN_len lsn es i (by omega)
    · exact pbAdd_len _ _ _ (pbN_len lsn es i (by omega)) (by omega)
theorem pbN_isB (lsn:Int)(es:List (Int×Int)) : ∀i,IsB (pbN lsn es i)
  | 0=>by unfold pbN;exact putL_isB (putL_isB (IsB.zeros _) _ _ _) _ _ _
  | i+1=>by
    unfold pbN
    split
    · exact pbN_isB lsn es i
    · exact putL_isB (putL_isB (pbN_isB lsn es i) _ _ _) _ _ _
def pageBytes (lsn:Int)(es:List (Int×Int)):List Int:=pbN lsn es es.length
def bytesV (lsn:Int)(es:List (Int×Int)):List Int:=if pageOk lsn es then pageBytes lsn es else []
theorem headOk_of {lsn:Int}{es:List (Int×Int)}(h:pageOk lsn es=true):headOk lsn es.length=true:=by
  unfold pageOk at h;rw[Bool.and_eq_true] at h;exact h.1
theorem keyOk_of {lsn:Int}{es:List (Int×Int)}(h:pageOk lsn es=true){k:Nat}(hk:k<es.length):keyOk es k=true:=by
  unfold pageOk at h;rw[Bool.and_eq_true,List.all_eq_true] at h;exact h.2 k (List.mem_range.2 hk)
theorem head_facts {lsn:Int}{n:Nat}(h:headOk lsn n=true):0≤lsn∧lsn≤1073741824∧n≤20:=by
  unfold headOk at h;simp at h;omega
theorem info_u8:(Tryz.prog.info? 5).map (fun i=>(i.zero,i.size,i.bytes))=some (some (.int .u8 0),1,1):=by kernel_rfl
def zb:Array Value:=madeCells #[.int .u8 0] 256
theorem zb_list:zb.toList=(List.replicate 256 (0:Int)).map (.int .u8):=by rw[zb,toList_madeCells_one,List.map_replicate]
theorem make256 (W:World):(Instr.makeSlice 93 (.int .i64 256) (.int .i64 256)).run Tryz.prog W = .ok (.slice (some ⟨W.heap.size,0,none⟩) 256 256) (W.alloc (.cells zb 5)):=
  run_make_row' (P:=Tryz.prog) 93 5 (.int .u8 0) 1 Tryz.underlying93 info_u8 rfl .i64 .i64 256 (by decide) (by decide) W
theorem bs_zb {W:World}{b:Nat}(h:W.heap[b]? = some (.cells zb 5 (0,0))):BS W (.slice (some ⟨b,0,none⟩) 256 256) (List.replicate 256 0):=by
  have hl:zb.size=256:=size_madeCells _ _
  refine⟨by simp,by simp,.inr ⟨b,0,256,zb,_,by simp,h,by simp,by decide,by simp[hl],?_⟩⟩
  rw[List.drop_zero,zb_list,List.length_replicate]
  exact List.take_of_length_le (by simp)
theorem u64_nonneg (n:Int):0≤IntKind.u64.wrap n:=by
  simp only[IntKind.wrap,IntKind.bits,IntKind.signed,Bool.false_and]
  rw[if_neg (by simp)]
  exact Int.emod_nonneg _ (by decide)
theorem bytes_calls (a:Nat→Addr)(lsn:Int)(sl:Value)(es:List (Int×Int))(w:World)(hs:Sents w a)(hp:P2 w 169 sl es) :
    Calls Tryz.prog 148 #[.agg #[.int .i64 lsn,sl]] w fun e w' => ∃v,e = .returned (.tuple #[v,errv a (checkE lsn es)])∧BS w' v (bytesV lsn es)∧Below w.heap.size w w':=by
  have HS:=Aside0.mk hs
  have HP:=Aside0.mk hp
  obtain⟨A,cap,rfl,_⟩:=ow_slice hp.1
  obtain⟨n,hn⟩ : ∃n,es.length=n:=⟨_,rfl⟩
  have HN:=Aside0.mk hn
  rw[hn]
  clear hs hp hn
  go_enter Tryz.func148,Tryz.ntmps148
  go_wp2_with fail
  refine (check_calls a lsn _ es _ (by exact HS.out.below (below_alloc (Below.refl _ _) _)) (by have:=HP.out;rw[HN.out] at this;exact P2.below this (below_alloc (Below.refl _ _) _))).mono ?_
  rintro e w1 ⟨rfl,hb⟩
  have HB:=Aside0.mk hb
  have hc0:w1.cell? ⟨w.heap.size,0,none⟩=some (.int .i64 lsn):=by rw[hb.cell (p:=⟨w.heap.size,0,none⟩) (by simp)];simp
  have hc1:w1.cell? ⟨w.heap.size,1,none⟩=some (.slice A n cap):=by rw[hb.cell (p:=⟨w.heap.size,1,none⟩) (by simp)];simp
  clear hb
  by_cases hok:pageOk lsn es=true
  · have HF:=head_facts (headOk_of hok)
    have hce:errv a (checkE lsn es) = .nilIface:=by unfold checkE;rw[if_pos hok];rfl
    rw[hce]
    go_wp2_with fail
    have hz:w.heap.size<w1.heap.size:=by have:=HB.out.size;simp at this;omega
    have hmk:=make256
    go_region_held3 (fun w'=>w'.cell? ⟨w.heap.size,0,none⟩=some (.int .i64 lsn)∧w'.cell? ⟨w.heap.size,1,none⟩=some (.slice A n cap))
      (refine⟨?_,?_⟩<;>(first | go_keep | (rw[hk];go_keep)))
      (first | (go_at_call 158;refine (put_calls _ _ 0 4 _ (by omega) (by omega) (by omega) (by rw[List.length_replicate];omega) (u64_nonneg _) _ (bs_zb (b:=w1.heap.size) (by show (w1.heap.push _)[w1.heap.size]? = _;exact Array.getElem?_push_size))).mono ?_;rintro e w2 ⟨v2,rfl,hv2,hb2⟩;have hk : ∀o,w2.cell? ⟨w.heap.size,o,none⟩=_:=fun o=>hb2.cell (p:=⟨w.heap.size,o,none⟩) (by simp;omega)))
    have HV:=Aside0.mk hv2
    replace HB:=Aside0.mk (below_step (by repeat (first | exact HB.out | apply below_drew1 | apply below_alloc)) hb2)
    obtain⟨_,hc1'⟩:w2.cell? ⟨w.heap.size,0,none⟩=some (.int .i64 lsn)∧w2.cell? ⟨w.heap.size,1,none⟩=some (.slice A n cap):=by assumption
    have hz2:w.heap.size<w2.heap.size:=by have:=HB.out.size;simp at this;omega
    clear hk hb2 hv2 hc0 hc1 hmk hz
    go_wp2_with fail
    refine (put_calls _ _ 4 2 _ (by omega) (by omega) (by omega) (by rw[putL_length _ _ _ _ (by rw[List.length_replicate];decide),List.length_replicate];omega) (u64_nonneg _) _ HV.out).mono ?_
    rintro e w3 ⟨v3,rfl,hv3,hb3⟩
    replace HV:=Aside0.mk (show BS w3 v3 (pbN lsn es 0) by have:=hv3;rw[←HN.out] at this;exact this)
    replace HB:=Aside0.mk (below_step HB.out hb3)
    have hc1:w3.cell? ⟨w.heap.size,1,none⟩=some (.slice A n cap):=by rw[hb3.cell (p:=⟨w.heap.size,1,none⟩) (by exact hz2)];exact hc1'
    clear hc1' hb3 hv3
    go_wp2_with fail
    replace HB:=Aside0.mk ((below_alloc (Below.refl w.heap.size w) (.cells #[.int .i64 lsn,.slice A n cap] 74)).trans (HB.out.mono (by simp)))
    clear hc1 hz2
    go_loopg [5,28] (n+1) (fun kq v5 v28 w' => ∃(i:Int) (v:Value),v5=v∧v28 = .int .i64 i∧Aside0 (0≤i∧i≤n∧(kq:Int)=n+1 - i)∧Aside0 (BS w' v (pbN lsn es i.toNat))∧Aside0 (Below w.heap.size w w'))
    case atStart=>exact⟨0,v3,rfl,rfl,⟨by omega,by omega,by omega⟩,HV,HB⟩
    case round=>
      clear HV HB
      obtain⟨i,v,rfl,rfl,HI,HV,HB⟩:=hrel
      have hi0:0≤i:=HI.out.1
      by_cases hlt:i<n
      · obtain⟨⟨x,y⟩,he⟩ : ∃e,es[i.toNat]? = some e:=⟨_,List.getElem?_eq_getElem (by have:=HN.out;omega)⟩
        have HE:=Aside0.mk he
        obtain⟨g,hA⟩ : ∃g,A=some ⟨g,0,none⟩:=by
          rcases HP.out.form with ⟨_,h0⟩ | ⟨g,c,hv,_⟩
          · have:=HN.out;rw[h0] at this;simp at this;omega
          · injection hv with h1;exact⟨g,h1⟩
        subst hA
        have hcl:wr.cell? ⟨g,i.toNat*2,none⟩=some (.int .i64 x)∧wr.cell? ⟨g,i.toNat*2+1,none⟩=some (.int .i64 y):=by
          rcases (P2.below HP.out HB.out).form with ⟨_,h0⟩ | ⟨g',c,hv,hc,_⟩
          · have:=HN.out;rw[h0] at this;simp at this;omega
          · injection hv with h1;injection h1 with h1;injection h1 with h1;subst h1;exact hc _ _ he
        obtain⟨hd0,hd1⟩:=hcl
        have hi20:i<20:=by have:=HN.out;omega
        have hL:=pbN_len lsn es i.toNat (by omega)
        have HL:=Aside0.mk hL
        clear he hL
        go_wp2_with fail
        have hin:IntKind.i64.wrap (16+i*12+4)=16+i*12+4:=IntWalk.i64_in _ (by omega)
        go_region_held3 (fun w'=>w'.cell? ⟨wr.heap.size,0,none⟩=some (.int .i64 x)∧w'.cell? ⟨wr.heap.size,1,none⟩=some (.int .i64 y))
          (refine⟨?_,?_⟩<;>(first | go_keep | (rw[hk];go_keep) | (rw[hk2];first | go_keep | (rw[hk];go_keep))))
          (first | (go_at_call 158;refine (put_calls v4 _ (16+i*12+4) 8 _ (by omega) (by omega) (by omega) (by rw[putL_length _ _ _ _ (by rw[HL.out];omega),HL.out];omega) (u64_nonneg _) _ (BS.below hv4 (by repeat (first | exact Below.refl _ _ | apply below_drew1 | apply below_alloc)))).mono ?_;rintro e w5 ⟨v5,rfl,hv5,hb5⟩;have hk2 : ∀o,w5.cell? ⟨wr.heap.size,o,none⟩=_:=fun o=>hb5.cell (p:=⟨wr.heap.size,o,none⟩) (by have:=hb4.size;simp at this;simp;omega)) | (go_at_call 158;refine (put_calls _ _ (16+i*12) 4 _ (by omega) (by omega) (by omega) (by rw[HL.out];omega) (u64_nonneg _) _ (BS.below HV.out (by repeat (first | exact Below.refl _ _ | apply below_drew1 | apply below_alloc)))).mono ?_;rintro e w4 ⟨v4,rfl,hv4,hb4⟩;have hk : ∀o,w4.cell? ⟨wr.heap.size,o,none⟩=_:=fun o=>hb4.cell (p:=⟨wr.heap.size,o,none⟩) (by simp)))
        have HV5:=Aside0.mk hv5
        have HB4:=Aside0.mk hb4
        have HB5:=Aside0.mk hb5
        clear hk hk2 hb4 hb5 hv4 hv5 hin
        go_wp2_with fail
        go_roundg (gk - 1)
        case measure=>have:=HI.out;omega
        case rel=>
          refine⟨i+1,_,rfl,rfl,⟨by omega,by omega,by have:=HI.out;omega⟩,⟨?_⟩,⟨?_⟩⟩
          · have e:pbN lsn es (i+1).toNat=putL (putL (pbN lsn es i.toNat) (16+i*12).toNat (4:Int).toNat (IntKind.u64.wrap x)) (16+i*12+4).toNat (8:Int).toNat (IntKind.u64.wrap y):=by
              rw[show (i+1).toNat=i.toNat+1 from by omega]
              rw[pbN,HE.out]
              simp only[pbAdd]
              rw[show (16+i*12).toNat=16+12*i.toNat from by omega,show (16+i*12+4).toNat=16+12*i.toNat+4 from by omega]
              rfl
            rw[e];exact HV5.out
          · exact below_step (below_step (by repeat (first | exact HB.out | apply below_drew1 | apply below_alloc)) HB4.out) HB5.out
      · go_wp2_with fail
        exact bodyPost_ret (v:=.tuple #[u5,.nilIface]) (by simp[results,Tryz.results148,go_sem]) rfl ⟨u5,rfl,by
          have:=HV.out
          rw[show i.toNat=es.length from by have:=HI.out;have:=HN.out;omega] at this
          unfold bytesV;rw[if_pos hok];exact this,HB.out⟩
  · have hce:errv a (checkE lsn es) = .iface 333 (.pointer (some (a 1))):=by unfold checkE;rw[if_neg hok];rfl
    have HCE:=Aside0.mk hce
    rw[hce]
    clear hce
    go_wp2_with fail
    exact bodyPost_ret (v:=.tuple #[.slice none 0 0,.iface 333 (.pointer (some (a 1)))]) (by simp[results,Tryz.results148,go_sem]) rfl ⟨_,by first | rfl | rw[HCE.out],by unfold bytesV;rw[if_neg hok];exact BS.nil _,(below_alloc (Below.refl w.heap.size w) (.cells #[.int .i64 lsn,.slice A n cap] 74)).trans (HB.out.mono (by simp))⟩
end Go.Proofs.YtaplpeoikebedaaGreatDoor.PageB
