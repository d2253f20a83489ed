/- Joined texts: PageB, PageR. No condition but what each says. -/
import Derived.Test.YtaplpeoikebedaaGreatDoorX4
import Derived.Deep.RegionLaw
set_option maxHeartbeats 8000000
set_option maxRecDepth 100000
set_option linter.unusedVariables false
set_option linter.unusedSimpArgs false
namespace Go.Proofs.YtaplpeoikebedaaGreatDoor.PageB
open Go.RowKit YtaplpeoikebedaaGreatDoorW.PrintWords YtaplpeoikebedaaGreatDoorW.PrintLast YtaplpeoikebedaaGreatDoorW.PrintMore
open See Mem Clone Go.Proofs.YtaplpeoikebedaaGreatDoor.Cell Page
attribute [local go_sem] max2_int min2_int max_two min_two
theorem bs_convert {w:World}{v:Value}{bs:List Int}(h:BS w v bs):(convert 93 9 v).run Tryz.prog w = .ok (.string (strOfNums bs)) w:=by
  rcases h.2.2 with ⟨rfl,h0⟩ | ⟨g,off,cap,cur,fz,rfl,hh,hnc,hcm,hsz,htk⟩
  · obtain rfl:=List.eq_nil_of_length_eq_zero h0
    exact run_convert_bytes_nil w _ _ Tryz.underlying93 Tryz.underlying5 0 0 _ Tryz.underlying9
  · refine run_convert_bytes_arg w _ _ Tryz.underlying93 Tryz.underlying5 g off _ cap bs rfl (fun i hi => ?_) _ Tryz.underlying9
    have:(bs.map (Value.int .u8))[i]? = some (.int .u8 (bs.getD i 0)):=by
      rw[List.getElem?_map,List.getElem?_eq_getElem hi];simp[List.getD,List.getElem?_eq_getElem hi]
    rw[←htk,List.getElem?_take,if_pos (by omega),List.getElem?_drop] at this
    simp only[World.cell?,hh]
    simpa using this
theorem strOfNums_inj : ∀{a b:List Int},IsB a→IsB b→strOfNums a=strOfNums b→a=b:=by
  intro a b ha hb h
  have h2:(a.map fun n=>UInt8.ofNat n.toNat)=b.map fun n=>UInt8.ofNat n.toNat:=by
    rw[←strOfNums_data,←strOfNums_data,h]
  clear h
  induction a generalizing b with
  | nil=>cases b with
    | nil=>rfl
    | cons y b=>simp at h2
  | cons x a ih=>cases b with
    | nil=>simp at h2
    | cons y b=>
      simp only[List.map_cons,List.cons.injEq] at h2
      obtain⟨h3,h4⟩:=h2
      obtain⟨x0,x1⟩:=ha x (List.mem_cons_self ..)
      obtain⟨y0,y1⟩:=hb y (List.mem_cons_self ..)
      have h5:=congrArg UInt8.toNat h3
      simp at h5
      have hxy:x=y:=by omega
      rw[hxy,ih (fun z hz=>ha z (List.mem_cons_of_mem _ hz)) (fun z hz=>hb z (List.mem_cons_of_mem _ hz)) h4]
theorem equal_calls (u v:Value)(a b:List Int)(w:World)(ha:BS w u a)(hb:BS w v b)(Ba:IsB a)(Bb:IsB b) :
    Calls Tryz.prog 106 #[u,v] w fun e w'=>e = .returned (.bool (decide (a=b)))∧w=w':=by
  have h1:=bs_convert ha
  have h2:=bs_convert hb
  have HE:=Aside0.mk (show ((strOfNums a).toList == (strOfNums b).toList)=decide (a=b) by
    by_cases h:a=b
    · subst h;simp
    · rw[decide_eq_false h]
      exact beq_eq_false_iff_ne.2 fun he=>h (strOfNums_inj Ba Bb (by
        rw[ByteArray.toList_eq,ByteArray.toList_eq] at he
        exact congrArg ByteArray.mk (by simpa using congrArg List.toArray he:(strOfNums a).data=(strOfNums b).data))))
  clear ha hb Ba Bb
  obtain⟨s,hs⟩ : ∃s,strOfNums a=s:=⟨_,rfl⟩
  obtain⟨t,ht⟩ : ∃t,strOfNums b=t:=⟨_,rfl⟩
  rw[hs] at h1
  rw[ht] at h2
  rw[hs,ht] at HE
  clear hs ht
  go_enter Tryz.func106,Tryz.ntmps106
  go_wp2
  go_ret
  exact⟨by simp[←HE.out],rfl⟩
def pbAdd (b:List Int)(k:Nat)(e:Int×Int):List Int:=putL (putL b (16+12*k) 4 (IntKind.u64.wrap e.1)) (16+12*k+4) 8 (IntKind.u64.wrap e.2)
def pbN (lsn:Int)(es:List (Int×Int)):Nat→List Int
  | 0=>putL (putL (List.replicate 256 0) 0 4 (IntKind.u64.wrap lsn)) 4 2 (IntKind.u64.wrap (es.length:Int))
  | i+1=>match es[i]? with
    | none=>pbN lsn es i
    | some e=>pbAdd (pbN lsn es i) i e
theorem pbAdd_len (b:List Int)(k:Nat)(e:Int×Int)(h:b.length=256)(hk:k<20):(pbAdd b k e).length=256:=by
  unfold pbAdd
  rw[putL_length _ _ _ _ (by rw[putL_length _ _ _ _ (by omega)];omega),putL_length _ _ _ _ (by omega),h]
theorem pbN_len (lsn:Int)(es:List (Int×Int)) : ∀i,i≤20→(pbN lsn es i).length=256
  | 0,_=>by unfold pbN;rw[putL_length _ _ _ _ (by rw[putL_length _ _ _ _ (by simp)];simp),putL_length _ _ _ _ (by simp),List.length_replicate]
  | i+1,h=>by
    unfold pbN
    split
    · exact pbN_len lsn es i (by omega)
    · exact pbAdd_len _ _ _ (pbN_len lsn es i (by omega)) (by omega)
theorem pbN_isB (lsn:Int)(es:List (Int×Int)) : ∀i,IsB (pbN lsn es i)
  | 0=>by unfold pbN;exact putL_isB (putL_isB (IsB.zeros _) _ _ _) _ _ _
  | i+1=>by
    unfold pbN
    split
    · exact pbN_isB lsn es i
    · exact putL_isB (putL_isB (pbN_isB lsn es i) _ _ _) _ _ _
def pageBytes (lsn:Int)(es:List (Int×Int)):List Int:=pbN lsn es es.length
def bytesV (lsn:Int)(es:List (Int×Int)):List Int:=if pageOk lsn es then pageBytes lsn es else []
theorem headOk_of {lsn:Int}{es:List (Int×Int)}(h:pageOk lsn es=true):headOk lsn es.length=true:=by
  unfold pageOk at h;rw[Bool.and_eq_true] at h;exact h.1
theorem keyOk_of {lsn:Int}{es:List (Int×Int)}(h:pageOk lsn es=true){k:Nat}(hk:k<es.length):keyOk es k=true:=by
  unfold pageOk at h;rw[Bool.and_eq_true,List.all_eq_true] at h;exact h.2 k (List.mem_range.2 hk)
theorem head_facts {lsn:Int}{n:Nat}(h:headOk lsn n=true):0≤lsn∧lsn≤1073741824∧n≤20:=by
  unfold headOk at h;simp at h;omega
theorem info_u8:(Tryz.prog.info? 5).map (fun i=>(i.zero,i.size,i.bytes))=some (some (.int .u8 0),1,1):=by kernel_rfl
def zb:Array Value:=madeCells #[.int .u8 0] 256
theorem zb_list:zb.toList=(List.replicate 256 (0:Int)).map (.int .u8):=by rw[zb,toList_madeCells_one,List.map_replicate]
theorem make256 (W:World):(Instr.makeSlice 93 (.int .i64 256) (.int .i64 256)).run Tryz.prog W = .ok (.slice (some ⟨W.heap.size,0,none⟩) 256 256) (W.alloc (.cells zb 5)):=
  run_make_row' (P:=Tryz.prog) 93 5 (.int .u8 0) 1 Tryz.underlying93 info_u8 rfl .i64 .i64 256 (by decide) (by decide) W
theorem bs_zb {W:World}{b:Nat}(h:W.heap[b]? = some (.cells zb 5 (0,0))):BS W (.slice (some ⟨b,0,none⟩) 256 256) (List.replicate 256 0):=by
  have hl:zb.size=256:=size_madeCells _ _
  refine⟨by simp,by simp,.inr ⟨b,0,256,zb,_,by simp,h,by simp,by decide,by simp[hl],?_⟩⟩
  rw[List.drop_zero,zb_list,List.length_replicate]
  exact List.take_of_length_le (by simp)
theorem u64_nonneg (n:Int):0≤IntKind.u64.wrap n:=by
  simp only[IntKind.wrap,IntKind.bits,IntKind.signed,Bool.false_and]
  rw[if_neg (by simp)]
  exact Int.emod_nonneg _ (by decide)
theorem bytes_calls (a:Nat→Addr)(lsn:Int)(sl:Value)(es:List (Int×Int))(w:World)(hs:Sents w a)(hp:P2 w 169 sl es) :
    Calls Tryz.prog 148 #[.agg #[.int .i64 lsn,sl]] w fun e w' => ∃v,e = .returned (.tuple #[v,errv a (checkE lsn es)])∧BS w' v (bytesV lsn es)∧Below w.heap.size w w':=by
  have HS:=Aside0.mk hs
  have HP:=Aside0.mk hp
  obtain⟨A,cap,rfl,_⟩:=ow_slice hp.1
  obtain⟨n,hn⟩ : ∃n,es.length=n:=⟨_,rfl⟩
  have HN:=Aside0.mk hn
  rw[hn]
  clear hs hp hn
  go_enter Tryz.func148,Tryz.ntmps148
  go_wp2_with fail
  refine (check_calls a lsn _ es _ (by exact HS.out.below (below_alloc (Below.refl _ _) _)) (by have:=HP.out;rw[HN.out] at this;exact P2.below this (below_alloc (Below.refl _ _) _))).mono ?_
  rintro e w1 ⟨rfl,hb⟩
  have HB:=Aside0.mk hb
  have hc0:w1.cell? ⟨w.heap.size,0,none⟩=some (.int .i64 lsn):=by rw[hb.cell (p:=⟨w.heap.size,0,none⟩) (by simp)];simp
  have hc1:w1.cell? ⟨w.heap.size,1,none⟩=some (.slice A n cap):=by rw[hb.cell (p:=⟨w.heap.size,1,none⟩) (by simp)];simp
  clear hb
  by_cases hok:pageOk lsn es=true
  · have HF:=head_facts (headOk_of hok)
    have hce:errv a (checkE lsn es) = .nilIface:=by unfold checkE;rw[if_pos hok];rfl
    rw[hce]
    go_wp2_with fail
    have hz:w.heap.size<w1.heap.size:=by have:=HB.out.size;simp at this;omega
    have hmk:=make256
    go_region_held3 (fun w'=>w'.cell? ⟨w.heap.size,0,none⟩=some (.int .i64 lsn)∧w'.cell? ⟨w.heap.size,1,none⟩=some (.slice A n cap))
      (refine⟨?_,?_⟩<;>(first | go_keep | (rw[hk];go_keep)))
      (first | (go_at_call 158;refine (put_calls _ _ 0 4 _ (by omega) (by omega) (by omega) (by rw[List.length_replicate];omega) (u64_nonneg _) _ (bs_zb (b:=w1.heap.size) (by show (w1.heap.push _)[w1.heap.size]? = _;exact Array.getElem?_push_size))).mono ?_;rintro e w2 ⟨v2,rfl,hv2,hb2⟩;have hk : ∀o,w2.cell? ⟨w.heap.size,o,none⟩=_:=fun o=>hb2.cell (p:=⟨w.heap.size,o,none⟩) (by simp;omega)))
    have HV:=Aside0.mk hv2
    replace HB:=Aside0.mk (below_step (by repeat (first | exact HB.out | apply below_drew1 | apply below_alloc)) hb2)
    obtain⟨_,hc1'⟩:w2.cell? ⟨w.heap.size,0,none⟩=some (.int .i64 lsn)∧w2.cell? ⟨w.heap.size,1,none⟩=some (.slice A n cap):=by assumption
    have hz2:w.heap.size<w2.heap.size:=by have:=HB.out.size;simp at this;omega
    clear hk hb2 hv2 hc0 hc1 hmk hz
    go_wp2_with fail
    refine (put_calls _ _ 4 2 _ (by omega) (by omega) (by omega) (by rw[putL_length _ _ _ _ (by rw[List.length_replicate];decide),List.length_replicate];omega) (u64_nonneg _) _ HV.out).mono ?_
    rintro e w3 ⟨v3,rfl,hv3,hb3⟩
    replace HV:=Aside0.mk (show BS w3 v3 (pbN lsn es 0) by have:=hv3;rw[←HN.out] at this;exact this)
    replace HB:=Aside0.mk (below_step HB.out hb3)
    have hc1:w3.cell? ⟨w.heap.size,1,none⟩=some (.slice A n cap):=by rw[hb3.cell (p:=⟨w.heap.size,1,none⟩) (by exact hz2)];exact hc1'
    clear hc1' hb3 hv3
    go_wp2_with fail
    replace HB:=Aside0.mk ((below_alloc (Below.refl w.heap.size w) (.cells #[.int .i64 lsn,.slice A n cap] 74)).trans (HB.out.mono (by simp)))
    clear hc1 hz2
    go_loopg [5,28] (n+1) (fun kq v5 v28 w' => ∃(i:Int) (v:Value),v5=v∧v28 = .int .i64 i∧Aside0 (0≤i∧i≤n∧(kq:Int)=n+1 - i)∧Aside0 (BS w' v (pbN lsn es i.toNat))∧Aside0 (Below w.heap.size w w'))
    case atStart=>exact⟨0,v3,rfl,rfl,⟨by omega,by omega,by omega⟩,HV,HB⟩
    case round=>
      clear HV HB
      obtain⟨i,v,rfl,rfl,HI,HV,HB⟩:=hrel
      have hi0:0≤i:=HI.out.1
      by_cases hlt:i<n
      · obtain⟨⟨x,y⟩,he⟩ : ∃e,es[i.toNat]? = some e:=⟨_,List.getElem?_eq_getElem (by have:=HN.out;omega)⟩
        have HE:=Aside0.mk he
        obtain⟨g,hA⟩ : ∃g,A=some ⟨g,0,none⟩:=by
          rcases HP.out.form with ⟨_,h0⟩ | ⟨g,c,hv,_⟩
          · have:=HN.out;rw[h0] at this;simp at this;omega
          · injection hv with h1;exact⟨g,h1⟩
        subst hA
        have hcl:wr.cell? ⟨g,i.toNat*2,none⟩=some (.int .i64 x)∧wr.cell? ⟨g,i.toNat*2+1,none⟩=some (.int .i64 y):=by
          rcases (P2.below HP.out HB.out).form with ⟨_,h0⟩ | ⟨g',c,hv,hc,_⟩
          · have:=HN.out;rw[h0] at this;simp at this;omega
          · injection hv with h1;injection h1 with h1;injection h1 with h1;subst h1;exact hc _ _ he
        obtain⟨hd0,hd1⟩:=hcl
        have hi20:i<20:=by have:=HN.out;omega
        have hL:=pbN_len lsn es i.toNat (by omega)
        have HL:=Aside0.mk hL
        clear he hL
        go_wp2_with fail
        have hin:IntKind.i64.wrap (16+i*12+4)=16+i*12+4:=IntWalk.i64_in _ (by omega)
        go_region_held3 (fun w'=>w'.cell? ⟨wr.heap.size,0,none⟩=some (.int .i64 x)∧w'.cell? ⟨wr.heap.size,1,none⟩=some (.int .i64 y))
          (refine⟨?_,?_⟩<;>(first | go_keep | (rw[hk];go_keep) | (rw[hk2];first | go_keep | (rw[hk];go_keep))))
          (first | (go_at_call 158;refine (put_calls v4 _ (16+i*12+4) 8 _ (by omega) (by omega) (by omega) (by rw[putL_length _ _ _ _ (by rw[HL.out];omega),HL.out];omega) (u64_nonneg _) _ (BS.below hv4 (by repeat (first | exact Below.refl _ _ | apply below_drew1 | apply below_alloc)))).mono ?_;rintro e w5 ⟨v5,rfl,hv5,hb5⟩;have hk2 : ∀o,w5.cell? ⟨wr.heap.size,o,none⟩=_:=fun o=>hb5.cell (p:=⟨wr.heap.size,o,none⟩) (by have:=hb4.size;simp at this;simp;omega)) | (go_at_call 158;refine (put_calls _ _ (16+i*12) 4 _ (by omega) (by omega) (by omega) (by rw[HL.out];omega) (u64_nonneg _) _ (BS.below HV.out (by repeat (first | exact Below.refl _ _ | apply below_drew1 | apply below_alloc)))).mono ?_;rintro e w4 ⟨v4,rfl,hv4,hb4⟩;have hk : ∀o,w4.cell? ⟨wr.heap.size,o,none⟩=_:=fun o=>hb4.cell (p:=⟨wr.heap.size,o,none⟩) (by simp)))
        have HV5:=Aside0.mk hv5
        have HB4:=Aside0.mk hb4
        have HB5:=Aside0.mk hb5
        clear hk hk2 hb4 hb5 hv4 hv5 hin
        go_wp2_with fail
        go_roundg (gk - 1)
        case measure=>have:=HI.out;omega
        case rel=>
          refine⟨i+1,_,rfl,rfl,⟨by omega,by omega,by have:=HI.out;omega⟩,⟨?_⟩,⟨?_⟩⟩
          · have e:pbN lsn es (i+1).toNat=putL (putL (pbN lsn es i.toNat) (16+i*12).toNat (4:Int).toNat (IntKind.u64.wrap x)) (16+i*12+4).toNat (8:Int).toNat (IntKind.u64.wrap y):=by
              rw[show (i+1).toNat=i.toNat+1 from by omega]
              rw[pbN,HE.out]
              simp only[pbAdd]
              rw[show (16+i*12).toNat=16+12*i.toNat from by omega,show (16+i*12+4).toNat=16+12*i.toNat+4 from by omega]
              rfl
            rw[e];exact HV5.out
          · exact below_step (below_step (by repeat (first | exact HB.out | apply below_drew1 | apply below_alloc)) HB4.out) HB5.out
      · go_wp2_with fail
        exact bodyPost_ret (v:=.tuple #[u5,.nilIface]) (by simp[results,Tryz.results148,go_sem]) rfl ⟨u5,rfl,by
          have:=HV.out
          rw[show i.toNat=es.length from by have:=HI.out;have:=HN.out;omega] at this
          unfold bytesV;rw[if_pos hok];exact this,HB.out⟩
  · have hce:errv a (checkE lsn es) = .iface 333 (.pointer (some (a 1))):=by unfold checkE;rw[if_neg hok];rfl
    have HCE:=Aside0.mk hce
    rw[hce]
    clear hce
    go_wp2_with fail
    exact bodyPost_ret (v:=.tuple #[.slice none 0 0,.iface 333 (.pointer (some (a 1)))]) (by simp[results,Tryz.results148,go_sem]) rfl ⟨_,by first | rfl | rw[HCE.out],by unfold bytesV;rw[if_neg hok];exact BS.nil _,(below_alloc (Below.refl w.heap.size w) (.cells #[.int .i64 lsn,.slice A n cap] 74)).trans (HB.out.mono (by simp))⟩
end Go.Proofs.YtaplpeoikebedaaGreatDoor.PageB
namespace Go.Proofs.YtaplpeoikebedaaGreatDoor.PageR
open Go.RowKit YtaplpeoikebedaaGreatDoorW.PrintWords YtaplpeoikebedaaGreatDoorW.PrintLast YtaplpeoikebedaaGreatDoorW.PrintMore
open See Mem Clone Go.Proofs.YtaplpeoikebedaaGreatDoor.Cell Page PageB
attribute [local go_sem] max2_imax min2_imin max_two min_two
def fld (bs:List Int)(a s:Nat):Int:=le ((bs.drop a).take s)
def keyAt (bs:List Int)(k:Nat):Int×Int:=(fld bs (16+12*k) 4,IntKind.i64.wrap (fld bs (16+12*k+4) 8))
def keysOf (bs:List Int)(n:Nat):List (Int×Int):=(List.range n).map (keyAt bs)
theorem keysOf_len (bs:List Int)(n:Nat):(keysOf bs n).length=n:=by simp[keysOf]
theorem keysOf_succ (bs:List Int)(n:Nat):keysOf bs (n+1)=keysOf bs n++[keyAt bs n]:=by simp[keysOf,List.range_succ]
def lsnOf (bs:List Int):Int:=fld bs 0 4
def cntOf (bs:List Int):Nat:=(min (fld bs 4 2) 20).toNat
def readPage (bs:List Int):Option (Int×List (Int×Int)):=
  if pageOk (lsnOf bs) (keysOf bs (cntOf bs)) && decide (pageBytes (lsnOf bs) (keysOf bs (cntOf bs))=bs) then some (lsnOf bs,keysOf bs (cntOf bs)) else none
theorem fld_bound {bs:List Int}(h:IsB bs)(a s:Nat)(hs:s≤8):0≤fld bs a s∧fld bs a s<256 ^ s:=by
  obtain⟨h1,h2⟩:=le_bound ((bs.drop a).take s) ((h.drop a).take s)
  refine⟨h1,Int.lt_of_lt_of_le h2 ?_⟩
  have hl:((bs.drop a).take s).length≤s:=by rw[List.length_take];omega
  have:=Nat.pow_le_pow_right (n:=256) (by decide) hl
  exact_mod_cast this
theorem news2_at (W:World)(u v:Value)(e:Nat) : ∀j x,[u,v][j]? = some x→(W.alloc (.cells #[u,v] e)).cell? ((⟨W.heap.size,0,none⟩:Addr).add j)=some x:=by
  intro j x hj
  rw[add_at]
  match j,hj with
  | 0,hj=>simp at hj;subst hj;simp
  | 1,hj=>simp at hj;subst hj;simp
theorem news2_one (x y:Int) : ∀u∈[Value.int .i64 x,Value.int .i64 y],u.oneCell'=true:=by
  intro u hu
  simp at hu
  rcases hu with rfl | rfl<;>rfl
theorem len_ok {n:Nat}(h:n≤100000):n+1≤maxLen:=by unfold maxLen;omega
theorem bytes_ok {n:Nat}(h:n≤100000):(n+1)*16≤140737488355328:=by omega
theorem get_x (v:Value)(bs:List Int)(a s x:Int)(h0:0≤a)(h1:1≤s)(h8:s≤8)(hn:a+s≤bs.length)(hB:IsB bs)(w:World)(hb:BS w v bs)(hx:fld bs a.toNat s.toNat=x) :
    Calls Tryz.prog 104 #[v,.int .i64 a,.int .i64 s] w fun e w'=>e = .returned (.int .u64 x)∧w=w':=by
  subst hx;exact get_calls v bs a s h0 h1 h8 hn hB w hb
def ReadPost (a:Nat→Addr)(bs:List Int)(w:World)(e:Ending)(w':World):Prop:=
  ∃sl,e = .returned (.tuple #[.agg #[.int .i64 ((readPage bs).getD (0,[])).1,sl],errv a (if (readPage bs).isSome then none else some 6)])∧P2 w' 169 sl ((readPage bs).getD (0,[])).2∧Below w.heap.size w w'
theorem read_calls (a:Nat→Addr)(v:Value)(bs:List Int)(w:World)(hs:Sents w a)(hb:BS w v bs)(hl:bs.length=256)(hB:IsB bs) :
    Calls Tryz.prog 93 #[v] w (ReadPost a bs w):=by
  have HS:=Aside0.mk hs
  have HV:=Aside0.mk hb
  have HL:=Aside0.mk hl
  have HIB:=Aside0.mk hB
  obtain⟨A,c,rfl,_⟩:=Rd.form hb
  rw[hl] at HV ⊢
  obtain⟨l4,hl4⟩ : ∃x,fld bs 0 4=x:=⟨_,rfl⟩
  obtain⟨c2,hc2⟩ : ∃x,fld bs 4 2=x:=⟨_,rfl⟩
  have hl4b:=fld_bound hB 0 4 (by decide)
  have hc2b:=fld_bound hB 4 2 (by decide)
  rw[hl4] at hl4b
  rw[hc2] at hc2b
  obtain⟨l0,l1⟩:=hl4b
  obtain⟨c0,c1⟩:=hc2b
  replace l1:l4<4294967296:=l1
  replace c1:c2<65536:=c1
  obtain⟨n,hmin⟩ : ∃n,imin c2 20=n:=⟨_,rfl⟩
  have hn0:0≤n:=by rw[imin_eq] at hmin;omega
  have hn1:n≤20:=by rw[imin_eq] at hmin;omega
  have HL4:=Aside0.mk hl4
  have HC2:=Aside0.mk hc2
  have HMIN:=Aside0.mk hmin
  clear hs hb hl hB hl4 hc2
  go_enter Tryz.func93,Tryz.ntmps93
  go_wp2_with fail
  refine (get_x _ bs 0 4 l4 (by omega) (by omega) (by omega) (by rw[HL.out];decide) HIB.out _ (by have:=HV.out;exact BS.below this (below_alloc (Below.refl _ _) _)) HL4.out).mono ?_
  rintro e w' ⟨rfl,rfl⟩
  go_wp2_with fail
  refine (get_x _ bs 4 2 c2 (by omega) (by omega) (by omega) (by rw[HL.out];decide) HIB.out _ (by have:=HV.out;exact BS.below this (by repeat (first | exact Below.refl _ _ | apply below_drew1 | apply below_alloc))) HC2.out).mono ?_
  rintro e w' ⟨rfl,rfl⟩
  go_wp2_with fail
  obtain⟨nn,hnn⟩ : ∃nn:Nat,n.toNat=nn:=⟨_,rfl⟩
  have HNN:=Aside0.mk hnn
  clear hnn hmin
  go_loopg [22] (nn+1) (fun kq v22 w' => ∃(i:Int) (sl:Value),v22 = .int .i64 i∧Aside0 (0≤i∧i≤n∧(kq:Int)=nn+1 - i)∧Aside0 (w.heap.size+2≤w'.heap.size)∧Aside0 (w'.cell? ⟨w.heap.size+1,0,none⟩=some (.int .i64 l4)∧w'.cell? ⟨w.heap.size+1,1,none⟩=some sl∧w'.frozen? ⟨w.heap.size+1,1,none⟩=false)∧Aside0 (w'.ownsRow (w.heap.size+2) 169 2 sl i.toNat (cells2 (keysOf bs i.toNat)))∧Aside0 (Below (w.heap.size+1) (w.alloc (.cells #[.int .i64 0,.slice none 0 0] 74)) w'))
  case atStart=>exact⟨0,.slice none 0 0,rfl,⟨by omega,by omega,by omega⟩,⟨by simp⟩,⟨by simp,by simp,by simp⟩,⟨World.ownsRow_nil _ _ _ _⟩,⟨Below.alloc (Below.refl _ _) (by simp) _⟩⟩
  case round=>
    obtain⟨i,sl,rfl,HI,HSZ,HC,HO,HBZ⟩:=hrel
    have HB:=Aside0.mk ((below_alloc (Below.refl w.heap.size w) (.cells #[.int .i64 0,.slice none 0 0] 74)).trans (HBZ.out.mono (Nat.le_succ _)))
    have hi0:0≤i:=HI.out.1
    by_cases hlt:i<n
    · obtain⟨i0,hi,hzz⟩:=Option.map_eq_some_iff.1 info_entries
      simp only[Prod.mk.injEq] at hzz
      obtain⟨hz0,hz1,hz2⟩:=hzz
      obtain⟨x,hx⟩ : ∃x,fld bs (16+12*i.toNat) 4=x:=⟨_,rfl⟩
      obtain⟨y,hy⟩ : ∃y,fld bs (16+12*i.toNat+4) 8=y:=⟨_,rfl⟩
      have hxb:=fld_bound HIB.out (16+12*i.toNat) 4 (by decide)
      rw[hx] at hxb
      obtain⟨x0,x1⟩:=hxb
      replace x1:x<4294967296:=x1
      obtain⟨p,hp⟩ : ∃p,16+i*12=p:=⟨_,rfl⟩
      have HXF:=Aside0.mk (show fld bs p.toNat (4:Int).toNat=x by rw[←hp,show (16+i*12).toNat=16+12*i.toNat from by omega];exact hx)
      have HYF:=Aside0.mk (show fld bs (p+4).toNat (8:Int).toNat=y by rw[←hp,show (16+i*12+4).toNat=16+12*i.toNat+4 from by omega];exact hy)
      have HKEY:=Aside0.mk (show keyAt bs i.toNat=(x,IntKind.i64.wrap y) by unfold keyAt;rw[hx,hy])
      have hp0:0≤p:=by omega
      have hp1:p≤244:=by omega
      have hin:IntKind.i64.wrap (p+4)=p+4:=IntWalk.i64_in _ (by omega)
      have hc0:=HC.out.2.1
      have hf0:=HC.out.2.2
      have hsz1:w.heap.size+1<wr.heap.size:=by have:=HSZ.out;omega
      have hwx:IntKind.i64.wrap x=x:=IntWalk.i64_in _ (by omega)
      have hn5:i.toNat≤100000:=by omega
      clear hx hy
      go_wp2_with fail
      go_region_law (first
        | (go_simp;go_at_call 104;have:=hg1;refine (get_x _ bs (p+4) 8 y (by omega) (by omega) (by omega) (by rw[HL.out];omega) HIB.out _ (by have:=HV.out;exact BS.below this (by repeat (first | exact HB.out | apply below_drew1 | apply below_alloc))) HYF.out).mono ?_;rintro e w' ⟨rfl,rfl⟩)
        | (go_simp;go_at_call 104;refine (get_x _ bs p 4 x (by omega) (by omega) (by omega) (by rw[HL.out];omega) HIB.out _ (by have:=HV.out;exact BS.below this (by repeat (first | exact HB.out | apply below_drew1 | apply below_alloc))) HXF.out).mono ?_;rintro e w' ⟨rfl,rfl⟩;have hg1:=trivial)
        | (refine step_append_lies _ (by rfl) _ _ 72 (by rfl) (w.heap.size+2) 169 i0 (.agg #[.int .i64 0,.int .i64 0]) 2 16 Tryz.underlying72 hi hz0 hz1 hz2 rfl (by decide) _ i.toNat (cells2 (keysOf bs i.toNat)) (by rfl) (by exact ow_below HO.out (by repeat (first | exact Below.refl _ _ | apply below_drew1 | apply below_alloc))) ⟨wr.heap.size,0,none⟩ 1 1 [.int .i64 x,.int .i64 (IntKind.i64.wrap y)] (by rfl) rfl (by exact news2_at wr _ _ _) (by exact news2_one _ _) (by decide) (by exact len_ok hn5) (by exact bytes_ok hn5) (by have:=HSZ.out;simp;omega) (wr.heap.size+1) (by simp) ?_;intro g2 cap2 w3 hown hgr hor hlt3;have hblk:w3.heap[w.heap.size+1]? = wr.heap[w.heap.size+1]? := grown_blk hgr (Below.heap_alloc _ _ _ (by have:=HSZ.out;show w.heap.size+1<wr.heap.size;omega)) (by have:=HSZ.out;simp;omega) (fun k hk=>by have:=(ow_block HO.out hk).1;omega);have hs1:w3.cell? ⟨w.heap.size+1,1,none⟩=some sl:=(World.cell?_of_block (w:=wr) (a:=⟨w.heap.size+1,1,none⟩) hblk).trans hc0;have hs2:w3.frozen? ⟨w.heap.size+1,1,none⟩=false:=(World.frozen?_of_block (w:=wr) (a:=⟨w.heap.size+1,1,none⟩) hblk).trans hf0))
      all_goals
        have hblkw : ∀b,b<w.heap.size+2→w3.heap[b]? = wr.heap[b]? := fun b hb=>grown_blk (v:=sl) hgr (Below.heap_alloc _ _ _ (by have:=HSZ.out;show b<wr.heap.size;omega)) (by have:=HSZ.out;simp;omega) (fun k hk=>by have:=(ow_block HO.out hk).1;omega)
        have HBW:=Aside0.mk hblkw
        have HO3:=Aside0.mk (show w3.ownsRow (w.heap.size+2) 169 2 (.slice (some ⟨g2,0,none⟩) (i.toNat+1) cap2) (i.toNat+1) (cells2 (keysOf bs (i.toNat+1))) from by rw[keysOf_succ,cells2_snoc,HKEY.out];exact hown)
        have HB3:=Aside0.mk (show Below (w.heap.size+1) (w.alloc (.cells #[.int .i64 0,.slice none 0 0] 74)) w3 from (HBZ.out.trans (Below.mono (below_alloc (Below.refl wr.heap.size wr) (.cells #[.int .i64 x,.int .i64 (IntKind.i64.wrap y)] 169)) (by have:=HSZ.out;omega))).grown (w:=(wr.alloc (.cells #[.int .i64 x,.int .i64 (IntKind.i64.wrap y)] 169))) (row:=sl.ownBlock) ⟨hgr.os,hgr.tape,hgr.output,hgr.size,hgr.block⟩ (by have:=HSZ.out;simp;omega) (fun k hk=>by have:=(ow_block HO.out hk).1;omega))
        have HSZ3:=Aside0.mk (show w.heap.size+2≤w3.heap.size by have:=hgr.size;have:=HSZ.out;simp at *;omega)
        have HS1:=Aside0.mk hs1
        have HS2:=Aside0.mk hs2
        clear hblkw hown hgr hor hlt3 hblk hs1 hs2 hi hz0 hz1 hz2 hin hwx
        go_wp2_with fail
        go_roundg (gk - 1)
        case measure=>have:=HI.out;have:=HNN.out;omega
        case rel=>
          refine⟨i+1,.slice (some ⟨g2,0,none⟩) (i.toNat+1) cap2,rfl,⟨by omega,by omega,by have:=HI.out;have:=HNN.out;omega⟩,⟨by have:=HSZ3.out;simpa [World.setCell] using this⟩,⟨?_,?_,?_⟩,⟨?_⟩,⟨?_⟩⟩
          · rw[World.cell?_setCell_other _ _ _ _ (by simp),World.cell?_of_block (w:=wr) (HBW.out _ (by show w.heap.size+1<_;omega))];exact HC.out.1
          · exact World.cell?_setCell_same _ _ _ HS1.out
          · rw[World.frozen?_setCell];exact HS2.out
          · rw[show (i+1).toNat=i.toNat+1 from by omega]
            exact ow_move HO3.out (fun k hk=>Below.heap_setCell _ _ _ _ (by have:=(ow_block HO3.out hk).1;show k≠w.heap.size+1;omega))
          · exact HB3.out.setCell (by show w.heap.size+1≤w.heap.size+1;omega) _
    · obtain⟨A',cp,rfl,_⟩:=ow_slice HO.out
      have HN:=Aside0.mk (show i=n by have:=HI.out;omega)
      have HCNT:=Aside0.mk (show i.toNat=cntOf bs by unfold cntOf;rw[HC2.out,←imin_eq,HMIN.out,HN.out])
      have HP2:=Aside0.mk (show P2 wr 169 (.slice A' i.toNat cp) (keysOf bs (cntOf bs)) from⟨by have:=ow_base HO.out (Nat.zero_le _);rw[←HCNT.out,keysOf_len];exact this,by rw[keysOf_len,←HCNT.out];have:=HN.out;omega⟩)
      have HLSN:=Aside0.mk (show lsnOf bs=l4 from HL4.out)
      have hc0:=HC.out.1
      have hc1:=HC.out.2.1
      go_wp2_with fail
      refine (bytes_calls a l4 _ _ _ (HS.out.below HB.out) HP2.out).mono ?_
      rintro e w2 ⟨v2,rfl,hv2,hb2⟩
      have HV2:=Aside0.mk hv2
      have HB2:=Aside0.mk hb2
      have hlt2:w.heap.size+2≤wr.heap.size:=HSZ.out
      have hd0:w2.cell? ⟨w.heap.size+1,0,none⟩=some (.int .i64 l4):=by rw[hb2.cell (p:=⟨w.heap.size+1,0,none⟩) (by show w.heap.size+1<wr.heap.size;omega)];exact hc0
      have hd1:w2.cell? ⟨w.heap.size+1,1,none⟩=some (.slice A' i.toNat cp):=by rw[hb2.cell (p:=⟨w.heap.size+1,1,none⟩) (by show w.heap.size+1<wr.heap.size;omega)];exact hc1
      have hB2:Below (w.heap.size+1) (w.alloc (.cells #[.int .i64 0,.slice none 0 0] 74)) w2:=HBZ.out.trans (hb2.mono (by omega))
      have he0:w2.cell? ⟨w.heap.size,0,none⟩=some (.int .i64 0):=by rw[hB2.cell (p:=⟨w.heap.size,0,none⟩) (by show w.heap.size<w.heap.size+1;omega)];simp
      have he1:w2.cell? ⟨w.heap.size,1,none⟩=some (.slice none 0 0):=by rw[hB2.cell (p:=⟨w.heap.size,1,none⟩) (by show w.heap.size<w.heap.size+1;omega)];simp
      have hf0:w2.frozen? ⟨w.heap.size,0,none⟩=false:=by rw[hB2.frozen (p:=⟨w.heap.size,0,none⟩) (by show w.heap.size<w.heap.size+1;omega)];simp
      have hf1:w2.frozen? ⟨w.heap.size,1,none⟩=false:=by rw[hB2.frozen (p:=⟨w.heap.size,1,none⟩) (by show w.heap.size<w.heap.size+1;omega)];simp
      have HBB2:=Aside0.mk (below_step HB.out hb2)
      have hg1:w2.cell? ⟨7,0,none⟩=some (.iface 333 (.pointer (some (a 6)))):=(HS.out.below HBB2.out).cell 6 (by decide)
      have hgl:7<w.heap.size:=World.block_lt_of_cell? _ _ (HS.out.cell 6 (by decide))
      have hgn : ¬(w.heap.size=7):=by omega
      have hgn' : ¬(7=w.heap.size):=by omega
      clear hb2 hv2 hc0 hc1 hB2
      by_cases hok:pageOk l4 (keysOf bs (cntOf bs))=true
      · have hce:errv a (checkE l4 (keysOf bs (cntOf bs))) = .nilIface:=by unfold checkE;rw[if_pos hok];rfl
        rw[hce]
        have HBV:=Aside0.mk (show bytesV l4 (keysOf bs (cntOf bs))=pageBytes l4 (keysOf bs (cntOf bs)) by unfold bytesV;rw[if_pos hok])
        rw[HBV.out] at HV2
        have heq:=equal_calls v2 (.slice A 256 c) (pageBytes l4 (keysOf bs (cntOf bs))) bs w2 HV2.out (BS.below HV.out HBB2.out) (pbN_isB _ _ _) HIB.out
        by_cases hpb:pageBytes l4 (keysOf bs (cntOf bs))=bs
        · have HRP:=Aside0.mk (show readPage bs=some (l4,keysOf bs (cntOf bs)) by unfold readPage;rw[HLSN.out,hok,decide_eq_true hpb];rfl)
          rw[decide_eq_true hpb] at heq
          have HEQ:=Aside0.mk heq
          clear heq hce
          go_wp2_with fail
          refine HEQ.out.mono ?_
          rintro e w' ⟨rfl,rfl⟩
          go_wp2_with fail
          exact bodyPost_ret (v:=.tuple #[.agg #[.int .i64 l4,.slice A' i.toNat cp],.nilIface]) (by simp[results,Tryz.results93,go_sem,he0,he1,hf0,hf1]) rfl ⟨.slice A' i.toNat cp,by rw[HRP.out];rfl,by
            rw[HRP.out]
            show P2 _ _ (.slice A' i.toNat cp) (keysOf bs (cntOf bs))
            refine⟨ow_move (P2.below HP2.out HB2.out).1 (fun k hk => ?_),HP2.out.2⟩
            have hk2:w.heap.size+2≤k:=(ow_block HO.out hk).1
            rw[Below.heap_setCell _ _ _ _ (by show k≠w.heap.size;omega),Below.heap_setCell _ _ _ _ (by show k≠w.heap.size;omega)],(HBB2.out.setCell (Nat.le_refl _) _).setCell (Nat.le_refl _) _⟩
        · have HRP:=Aside0.mk (show readPage bs=none by unfold readPage;rw[HLSN.out,hok,decide_eq_false hpb];rfl)
          rw[decide_eq_false hpb] at heq
          have HEQ:=Aside0.mk heq
          clear heq hce
          go_wp2_with fail
          refine HEQ.out.mono ?_
          rintro e w' ⟨rfl,rfl⟩
          go_wp2_with fail
          go_region
          all_goals
            go_wp2_with fail
            exact bodyPost_ret (v:=.tuple #[.agg #[.int .i64 0,.slice none 0 0],.iface 333 (.pointer (some (a 6)))]) (by simp[results,Tryz.results93,go_sem,he0,he1,hf0,hf1]) rfl ⟨.slice none 0 0,by rw[HRP.out];rfl,by
              rw[HRP.out]
              exact P2.nil _ _,by repeat (first | exact (HBB2.out.setCell (Nat.le_refl _) _).setCell (Nat.le_refl _) _ | apply pw_below_drewN | apply below_drew1)⟩
      · have hce:errv a (checkE l4 (keysOf bs (cntOf bs))) = .iface 333 (.pointer (some (a 1))):=by unfold checkE;rw[if_neg hok];rfl
        rw[hce]
        have HRP:=Aside0.mk (show readPage bs=none by unfold readPage;rw[HLSN.out,Bool.eq_false_iff.2 hok];rfl)
        clear hce
        go_wp2_with fail
        go_region
        all_goals
          go_wp2_with fail
          exact bodyPost_ret (v:=.tuple #[.agg #[.int .i64 0,.slice none 0 0],.iface 333 (.pointer (some (a 6)))]) (by simp[results,Tryz.results93,go_sem,he0,he1,hf0,hf1]) rfl ⟨.slice none 0 0,by rw[HRP.out];rfl,by
            rw[HRP.out]
            exact P2.nil _ _,by repeat (first | exact (HBB2.out.setCell (Nat.le_refl _) _).setCell (Nat.le_refl _) _ | apply pw_below_drewN | apply below_drew1)⟩
end Go.Proofs.YtaplpeoikebedaaGreatDoor.PageR
