/- Joined texts: EndT, LockF, FwdL, BackM, BackW. No condition but what each says. -/
import Derived.Test.YtaplpeoikebedaaGreatDoorX33
import Derived.Test.YtaplpeoikebedaaGreatDoorX24
import Derived.Test.YtaplpeoikebedaaGreatDoorX27
import Derived.Test.YtaplpeoikebedaaGreatDoorX13
import Derived.Test.YtaplpeoikebedaaGreatDoorX31
import Derived.Deep.RegionLaw
import Derived.Deep.DeepCutAuto
set_option maxHeartbeats 8000000
set_option maxRecDepth 100000
set_option linter.unusedVariables false
set_option linter.unusedSimpArgs false
namespace Go.Proofs.YtaplpeoikebedaaGreatDoor.EndT
open Go.RowKit Go.Maps YtaplpeoikebedaaGreatDoorW.PrintWords YtaplpeoikebedaaGreatDoorW.PrintLast YtaplpeoikebedaaGreatDoorW.PrintMore
open See Mem Page Disk DiskN DiskW RecD Rec Dirty Wal WalF SysD SysM FlushG Pager StoreD PageM StoreF StoreG StoreH StoreI StoreJ TransT LockT LockU SpaceT WaitT FwdM FwdP FwdC FwdT FwdB FwdS
attribute [local go_sem] max2_imax min2_imin max_two min_two
def addK (F:FS)(r:RecV):FS:={ F with S:=addRec F.S r,kept:=F.kept - 1 }
theorem end_calls (a:Nat→Addr)(M:Nat→Prop)(sp lp pp dp qp mp:Nat)(blocks frames:Int)(F:FS)(id:Int)(w:World)(h:FwM M w sp lp pp dp qp mp blocks frames F)(hs:SentsAll w a)(hO:OutAll M a)(hid:thas F.ts id=true)(hr:Rising (kvT F.ts))(htid:(tget F.ts id).id=id)(hk:1≤F.kept∧F.kept≤1073741824)(hrec:recOk (recMark (tget F.ts id) 6)=true)(hroom:1≤F.S.l.room) :
    Calls Tryz.prog 136 #[.pointer (some ⟨lp,0,none⟩),.pointer (some ⟨sp,8,none⟩),.pointer (some ⟨qp,0,none⟩),txV (tget F.ts id)] w fun e w'=>e = .returned .nilIface∧FwPost M sp lp pp dp qp mp blocks frames { addK F (recMark (tget F.ts id) 6) with ts:=tdrop F.ts id } w w':=by
  have HF:=Aside0.mk h
  have HS:=Aside0.mk hs
  have HO:=Aside0.mk hO
  have HID:=Aside0.mk (And.intro hid hr)
  have HKB:=Aside0.mk hk
  have HREC:=Aside0.mk (append_room hrec hroom)
  have hd1:decide (F.kept<1)=false:=decide_eq_false (by omega)
  obtain⟨x,hxx⟩ : ∃x,tget F.ts id=x:=⟨_,rfl⟩
  rw[hxx] at HREC htid ⊢
  obtain⟨xi,xs,xl,xn⟩:=x
  simp only at htid
  subst htid
  simp only[txV]
  clear h hs hO hid hr hk hrec hroom hxx
  go_enter Tryz.func136,Tryz.ntmps136
  go_upto_region 1 with fail
  obtain⟨W,hW⟩ : ∃W,w.alloc (.cells #[.int .i64 xi,.int .i64 xs,.int .i64 xl,.int .i64 xn] 102)=W:=⟨_,rfl⟩
  have HXB:=Aside0.mk (show W.heap[w.heap.size]? = some (.cells #[.int .i64 xi,.int .i64 xs,.int .i64 xl,.int .i64 xn] 102 (0,0)) by rw[←hW];exact heap_alloc_new _ _)
  have HL0:=Aside0.mk (LB.start HF.out (show Below w.heap.size w W by rw[←hW];exact below_alloc (Below.refl _ _) _))
  rw[hW]
  clear hW
  obtain⟨x0,x1,x2,x3,_,_,_,_⟩:=tx_cells HXB.out
  have hxl:=heap_lt HXB.out
  go_wp2_with fail
  refine (kept_space qp F.free F.kept _ HL0.out.f.room).mono ?_
  rintro e w' ⟨rfl,rfl⟩
  obtain⟨lv,hlg⟩:=HL0.out.f.sys.log
  have HLG:=Aside0.mk hlg
  have HSS:=Aside0.mk (HL0.out.sents HS.out HO.out)
  clear hlg
  go_wp2_with fail
  refine (append_log a _ lp dp lv F.S.l (recMark ⟨xi,xs,xl,xn⟩ 6) _ (HSS.out.1.k _ (by decide)) HLG.out).mono ?_
  rintro e w3 ⟨rfl,v3,hl3,hf3⟩
  rw[HREC.out.2.2] at hl3
  rw[HREC.out.1,HREC.out.2.1,show errv a none = .nilIface from rfl]
  have HL1:=Aside0.mk (HL0.out.step (FwM.lg HL0.out.f ⟨v3,hl3⟩ hf3))
  clear hl3 hf3 x0 x1 x2 x3 hxl
  go_wp2_with fail
  refine (spend_space _ qp F.free F.kept 1 _ HL1.out.f.room HL1.out.f.low.2.1 (by omega) HKB.out.1 HKB.out.2).mono ?_
  rintro e w4 ⟨rfl,hs4,hf4⟩
  have HL2:=Aside0.mk (HL1.out.step (FwM.spc HL1.out.f hs4 hf4))
  clear hs4 hf4
  obtain⟨cs,tv,htx,hput⟩:=FwM.txs HL2.out.f HID.out.2
  have HTX:=Aside0.mk htx
  have HPT:=Aside0.mk hput
  clear htx hput
  obtain⟨x0,x1,x2,x3,_,_,_,_⟩:=tx_cells (HL2.out.at HXB.out (Nat.le_refl _))
  go_wp2_with fail
  refine (tdrop_calls _ sp 8 118 cs tv F.ts F.most xi _ HTX.out HID.out.1).mono ?_
  rintro e w5 ⟨rfl,hpost⟩
  have HL3:=Aside0.mk (HL2.out.step (HPT.out _ _ _ (Int.le_refl _) hpost))
  clear hpost x0 x1 x2 x3
  go_wp2_with fail
  go_ret
  exact⟨rfl,HL3.out.post⟩
theorem fappend_calls (a:Nat→Addr)(M:Nat→Prop)(sp lp pp dp qp mp:Nat)(blocks frames:Int)(F:FS)(r:RecV)(w:World)(h:FwM M w sp lp pp dp qp mp blocks frames F)(hs:SentsAll w a)(hO:OutAll M a)(hk:1≤F.kept∧F.kept≤1073741824)(hrec:recOk r=true)(hroom:1≤F.S.l.room) :
    Calls Tryz.prog 74 #[.pointer (some ⟨sp,0,none⟩),recV r] w fun e w'=>e = .returned (.tuple #[.int .i64 (F.S.l.last+1),.nilIface])∧FwPost M sp lp pp dp qp mp blocks frames (addK F r) w w':=by
  have HF:=Aside0.mk h
  have HS:=Aside0.mk hs
  have HO:=Aside0.mk hO
  have HKB:=Aside0.mk hk
  have HREC:=Aside0.mk (append_room hrec hroom)
  have hspl:sp<w.heap.size:=by obtain⟨kv,tv,b1,_⟩:=h.box;exact heap_lt b1
  obtain⟨W,hW⟩ : ∃W,w.alloc (.cells (recA r) 46)=W:=⟨_,rfl⟩
  have HRB:=Aside0.mk (show W.heap[w.heap.size]? = some (.cells (recA r) 46 (0,0)) by rw[←hW];exact heap_alloc_new _ _)
  have HL0:=Aside0.mk (LB.start HF.out (show Below w.heap.size w W by rw[←hW];exact below_alloc (Below.refl _ _) _))
  have HAP:=Aside0.mk (show ∀(V:World),Below W.heap.size W V→Calls Tryz.prog 63 #[.pointer (some ⟨lp,0,none⟩),recV r] V (fun e w'=>e = .returned (.tuple #[.int .i64 (F.S.l.last+1),.nilIface])∧∃R,LB M sp lp pp dp qp mp blocks frames { F with S:=addRec F.S r } w W R w') from fun V hbl=>by
    have hl:=HL0.out.below hbl
    obtain⟨hs1,hs2⟩:=hl.sents HS.out HO.out
    obtain⟨lv,hlg⟩:=hl.f.sys.log
    have:=append_log a _ lp dp lv F.S.l r V (hs1.k _ (by decide)) hlg
    exact this.mono fun e w' hh=>by
      obtain⟨rfl,v3,hl3,hf3⟩:=hh
      rw[HREC.out.2.2] at hl3
      rw[HREC.out.1,HREC.out.2.1,show errv a none = .nilIface from rfl]
      exact⟨rfl,_,hl.step (FwM.lg hl.f ⟨v3,hl3⟩ hf3)⟩)
  have j4:=HL0.out.f.cells.2.2.1
  obtain⟨y0,y1,y2,y3,y4,y5,y6,y7,y8,y9⟩:=ChangeT.rec_cells HRB.out
  have hlW:=heap_lt HRB.out
  have HWE:=Aside0.mk hW
  clear h hs hO hk hrec hroom hW
  obtain⟨r0,r1,r2,r3,r4,r5,r6,r7,r8,r9⟩:=r
  simp only[recV,recA] at *
  go_enter Tryz.func74,Tryz.ntmps74
  go_upto_region 1 with fail
  rw[HWE.out]
  go_cut [6,7] (fun v6 v7 wx=>v6 = .int .i64 (F.S.l.last+1)∧v7 = .nilIface∧∃R,Aside0 (LB M sp lp pp dp qp mp blocks frames { F with S:=addRec F.S ⟨r0,r1,r2,r3,r4,r5,r6,r7,r8,r9⟩ } w W R wx))
  case first=>
    go_region_law (first
      | (go_simp;go_at_call 63;refine (HAP.out _ (by repeat (first | exact Below.refl _ _ | apply below_drew1))).mono ?_;rintro e w4 ⟨rfl,R4,hl4⟩;have HL4:=Aside0.mk hl4;clear hl4))
    all_goals
      go_wp2_with fail
      go_meet
      exact⟨rfl,rfl,R4,HL4⟩
  case rest=>
    obtain⟨rfl,rfl,R4,HL4⟩:=hcut
    generalize wc=V1 at HL4 ⊢
    clear j4 y0 y1 y2 y3 y4 y5 y6 y7 y8 y9
    have j10:=HL4.out.f.cells.2.2.2.2.2.2.1
    go_wp2_with fail
    refine (spend_space _ qp F.free F.kept 1 _ HL4.out.f.room HL4.out.f.low.2.1 (by omega) HKB.out.1 HKB.out.2).mono ?_
    rintro e w4 ⟨rfl,hs4,hf4⟩
    have HL5:=Aside0.mk (HL4.out.step (FwM.spc HL4.out.f hs4 hf4))
    clear hs4 hf4 j10
    go_wp2_with fail
    exact bodyPost_ret (v:=.tuple #[.int .i64 (F.S.l.last+1),.nilIface]) (by simp[results,Tryz.results74,go_sem]) rfl ⟨rfl,HL5.out.post⟩
end Go.Proofs.YtaplpeoikebedaaGreatDoor.EndT
namespace Go.Proofs.YtaplpeoikebedaaGreatDoor.LockF
open Go.RowKit YtaplpeoikebedaaGreatDoorW.PrintWords YtaplpeoikebedaaGreatDoorW.PrintLast YtaplpeoikebedaaGreatDoorW.PrintMore
open See Mem Clone Go.Proofs.YtaplpeoikebedaaGreatDoor.Cell Page PageR Disk DiskN Pool1 Pool2 Rw Del Num SortI StoreD TransT LockT LockU
attribute [local go_sem] max2_imax min2_imin max_two min_two
theorem cell1 {w:World}{b t:Nat}{v:Value}{fz:Nat×Nat}(h:w.heap[b]? = some (.cells #[v] t fz)):w.cell? ⟨b,0,none⟩=some v:=by simp[World.cell?,h]
theorem lkzero (w:World):(zeroValue 265).run Tryz.prog w = .ok (.agg #[.int .i64 0,.int .i64 0,.int .i64 0]) w:=by kernel_rfl
theorem zeros_lk (n:Nat):(Builtin.zeroCells (Value.agg #[.int .i64 0,.int .i64 0,.int .i64 0]).cells n).toList=List.replicate (n*3) (.int .i64 0):=by
  have hc:(Value.agg #[.int .i64 0,.int .i64 0,.int .i64 0]).cells = #[.int .i64 0,.int .i64 0,.int .i64 0]:=rfl
  rw[hc]
  unfold Builtin.zeroCells
  apply List.ext_getElem
  · simp
  · intro i h1 h2
    simp at h1 h2 ⊢
    have h3:i % 3=0∨i % 3=1∨i % 3=2:=by omega
    rcases h3 with h3 | h3 | h3<;>simp[h3]
theorem clear_lk (w:World)(ty:TypeId)(b n c:Nat)(hn:0<n)(hc : ∀j,j<n*3→(w.cell? ⟨b,j,none⟩).isSome=true)(hf : ∀j,w.frozen? ⟨b,j,none⟩=false) :
    (Builtin.clear_ #[107] ty #[.slice (some ⟨b,0,none⟩) n c]).run Tryz.prog w = .ok (.tuple #[]) (w.setCells b 0 (List.replicate (n*3) (.int .i64 0))):=by
  have hst:=run_storeCells_cells (P:=Tryz.prog) b 0 (List.replicate (n*3) (.int .i64 0)) 0 w (by simpa using hc) (fun j hj=>hf _) (fun u hu=>by rw[List.eq_of_mem_replicate hu];rfl)
  simp only[Nat.add_zero] at hst
  obtain⟨m,rfl⟩ : ∃m,n=m+1:=⟨n - 1,by omega⟩
  simp[Builtin.clear_,run_underlying Tryz.underlying107,lkzero,zeros_lk,hst]
theorem clos_free (b1:Nat)(s s1 k1 m1:Int)(w:World)(h1:w.cell? ⟨b1,0,none⟩=some (.int .i64 s)) :
    Calls Tryz.prog 194 #[.agg #[.int .i64 s1,.int .i64 k1,.int .i64 m1],.pointer (some ⟨b1,0,none⟩)] w fun e w'=>e = .returned (.bool (s1 == s))∧Below w.heap.size w w':=by
  have hlt1:b1<w.heap.size:=World.block_lt_of_cell? _ _ h1
  go_enter Tryz.func194,Tryz.ntmps194
  go_wp2_with fail
  go_ret
  exact⟨rfl,by repeat (first | exact Below.refl _ _ | apply pw_below_drewN | apply below_drew1 | apply below_alloc)⟩
theorem index_free (v:Value)(fs:List Lk)(b1:Nat)(s:Int)(w:World)(hf:LR w v fs)(h1:w.cell? ⟨b1,0,none⟩=some (.int .i64 s))(ha : ∀h∈fs,h.s=s) :
    Calls Tryz.prog 175 #[v,.func (.func 194) #[] #[.pointer (some ⟨b1,0,none⟩)]] w fun e w'=>e = .returned (.int .i64 (if fs.length=0 then -1 else 0))∧Below w.heap.size w w':=by
  obtain⟨A,cap,rfl,_⟩:=ow_slice hf.1
  obtain⟨l,hl⟩ : ∃l,fs.length=l:=⟨_,rfl⟩
  have HL:=Aside0.mk hl
  have HF:=Aside0.mk hf
  have HC1:=Aside0.mk h1
  have HA:=Aside0.mk ha
  have hl8:l≤100000:=by rw[←hl];exact hf.2
  rw[hl]
  clear hf h1 hl ha
  go_enter Tryz.func175,Tryz.ntmps175
  go_wp2_with fail
  go_loopg [8] 1 (fun kq v8 w'=>v8 = .int .i64 0∧w'=w)
  case atStart=>exact⟨rfl,rfl⟩
  case round=>
    obtain⟨rfl,rfl⟩:=hrel
    by_cases hlt:0<l
    · obtain⟨f,hf⟩ : ∃f,fs[(0:Int).toNat]? = some f:=⟨_,List.getElem?_eq_getElem (by have:=HL.out;simp;omega)⟩
      obtain⟨g,rfl,hll,hd0,hd1,hd2⟩:=HF.out.at hf
      have hfs:=HA.out f (List.mem_of_getElem? hf)
      obtain⟨fs1,fk,fm⟩:=f
      simp at hd0 hd1 hd2 hfs
      subst hfs
      have hi0:(0:Int)<l:=by omega
      have HI:=Aside0.mk (show (if l=0 then (-1:Int) else 0)=0 by rw[if_neg (by omega)])
      clear hf hll
      go_wp2_with fail
      refine (clos_free b1 fs1 fs1 fk fm _ HC1.out).mono ?_
      rintro e w1 ⟨rfl,hb⟩
      have HB:=Aside0.mk hb
      clear hb
      rw[show (fs1 == fs1)=true from by simp]
      go_wp2_with fail
      refine bodyPost_ret (v:=.int .i64 0) (by simp[results,Tryz.results175,go_sem]) rfl ⟨by first | rfl | (rw[HI.out]),HB.out⟩
    · have hl0:l=0:=by omega
      have HI:=Aside0.mk (show (if l=0 then (-1:Int) else 0) = -1 by rw[if_pos hl0])
      subst hl0
      go_wp2_with fail
      go_ret
      exact⟨rfl,Below.refl _ _⟩
theorem del_all (v:Value)(fs:List Lk)(b1:Nat)(s:Int)(w:World)(hf:LR w v fs)(h1:w.cell? ⟨b1,0,none⟩=some (.int .i64 s))(ha : ∀h∈fs,h.s=s) :
    Calls Tryz.prog 193 #[v,.func (.func 194) #[] #[.pointer (some ⟨b1,0,none⟩)]] w fun e w' => ∃v',e = .returned v'∧LR w' v' []∧v'.ownBlock=v.ownBlock∧w.grownBy w' v.ownBlock:=by
  have HIX:=Aside0.mk (index_free v fs b1 s w hf h1 ha)
  obtain⟨l,hl⟩ : ∃l,fs.length=l:=⟨_,rfl⟩
  rw[hl] at HIX
  have HF:=Aside0.mk hf
  have HL:=Aside0.mk hl
  have HC1:=Aside0.mk h1
  have HA:=Aside0.mk ha
  obtain⟨A,cap,hv,_⟩:=ow_slice hf.1
  have hl8:l≤100000:=by rw[←hl];exact hf.2
  rw[hl] at hv
  subst hv
  by_cases h0:l=0
  · subst h0
    have h00:fs=[]:=List.eq_nil_of_length_eq_zero hl
    have HR:=Aside0.mk (show ∀w',Below w.heap.size w w'→LR w' (.slice A 0 cap) [] from fun w' hb=>by rw[←h00];exact hf.below hb)
    simp only[if_true] at HIX
    clear hf h1 ha hl
    go_enter Tryz.func193,Tryz.ntmps193
    go_wp2_with fail
    refine HIX.out.mono ?_
    rintro e w1 ⟨rfl,hb⟩
    have HB:=Aside0.mk hb
    clear hb
    go_wp2_with fail
    go_ret
    exact⟨_,rfl,HR.out _ HB.out,rfl,⟨HB.out.os,HB.out.tape,HB.out.output,HB.out.size,fun k hk _=>HB.out.block k hk⟩⟩
  · rw[if_neg h0] at HIX
    obtain⟨g,rfl⟩ : ∃g,A=some ⟨g,0,none⟩:=by
      rcases hf.form with ⟨_,e⟩ | ⟨g,c,e,_⟩
      · rw[e] at hl;simp at hl;omega
      · injection e with e1;exact⟨g,e1⟩
    have HN0:=Aside0.mk h0
    clear hf h1 ha hl
    go_enter Tryz.func193,Tryz.ntmps193
    go_wp2_with fail
    refine HIX.out.mono ?_
    rintro e w1 ⟨rfl,hb⟩
    have HB1:=Aside0.mk hb
    clear hb
    go_wp2_with fail
    go_loopg [5,6] l (fun kq v5 v6 w' => ∃j:Int,v5 = .int .i64 0∧v6 = .int .i64 j∧Aside0 (1≤j∧j≤l∧(kq:Int)=l+1 - j)∧Aside0 (Below w.heap.size w w'))
    case atStart=>exact⟨1,rfl,rfl,⟨by omega,by have:=HN0.out;omega,by omega⟩,HB1⟩
    case round=>
      obtain⟨j,rfl,rfl,HJ,HB⟩:=hrel
      have hj0:1≤j:=HJ.out.1
      by_cases hlt:j<l
      · obtain⟨f,hf⟩ : ∃f,fs[j.toNat]? = some f:=⟨_,List.getElem?_eq_getElem (by have:=HL.out;omega)⟩
        obtain⟨g',hg',hll,hd0,hd1,hd2⟩:=(show LR wr (.slice (some ⟨g,0,none⟩) l cap) fs from HF.out.below HB.out).at hf
        obtain rfl:g=g':=by simpa using hg'
        have hfs:=HA.out f (List.mem_of_getElem? hf)
        obtain⟨fs1,fk,fm⟩:=f
        simp only at hd0 hd1 hd2 hfs
        subst hfs
        clear hf hll hg'
        go_wp2_with fail
        refine (clos_free b1 fs1 fs1 fk fm _ (pw_cell_below (below_alloc HB.out _) HC1.out)).mono ?_
        rintro e w2 ⟨rfl,hb⟩
        have HB2:=Aside0.mk (below_step (below_alloc HB.out _) hb)
        clear hb
        rw[show (fs1 == fs1)=true from by simp]
        go_wp2_with fail
        go_roundg (gk - 1)
        case measure=>have:=HJ.out;omega
        case rel=>exact⟨j+1,rfl,rfl,⟨by omega,by omega,by have:=HJ.out;omega⟩,HB2⟩
      · have hown:=(HF.out.below HB.out).1
        rw[HL.out] at hown
        obtain⟨hcs,hfz,_,hnc,hcm⟩:=own_cells hown
        have hl0:0<l:=by have:=HN0.out;omega
        have hcl:=fun ty=>clear_lk wr ty g l cap hl0 (fun j hj=>hcs j (Nat.lt_of_lt_of_le hj (Nat.mul_le_mul_right _ hnc))) hfz
        have HOWN:=Aside0.mk hown
        have hcap0 : ¬cap=0:=by omega
        clear hcs hfz hcm hown
        go_wp2_with fail
        obtain⟨o1,o2⟩:=own_setCells (List.replicate (l*3) (.int .i64 0)) 0 wr _ HOWN.out
        have o3:=own_cut o1 (Nat.zero_le l)
        refine bodyPost_ret (v:=.slice (some ⟨g,0,none⟩) 0 cap) (by simp[results,Tryz.results193,go_sem]) rfl ⟨_,rfl,⟨?_,by simp⟩,rfl,?_⟩
        · have:(setL (lkCells fs) 0 (List.replicate (l*3) (.int .i64 0))).take (0*3)=[]:=by simp
          rw[this] at o3
          exact o3
        · have hb:=HB.out
          exact⟨o2.os.trans hb.os,o2.tape.trans hb.tape,o2.output.trans hb.output,Nat.le_trans hb.size o2.size,fun k hk hn=>(o2.block k (Nat.lt_of_lt_of_le hk hb.size) hn).trans (hb.block k hk)⟩
theorem free_calls (M:Nat→Prop)(p o e:Nat)(cs:Array Value)(v:Value)(ls:List Lk)(s:Int)(w:World)(h:LkM M w p o e cs v ls)(ha : ∀h∈ls,h.s=s) :
    Calls Tryz.prog 137 #[.pointer (some ⟨p,o,none⟩),.int .i64 s] w fun e' w'=>e' = .returned (.tuple #[])∧LkPost M p o e cs [] w w':=by
  have HT:=Aside0.mk h
  have HA:=Aside0.mk ha
  have hpl:=heap_lt h.box
  have hc:=h.cell
  obtain⟨W,hW⟩ : ∃W,w.alloc (.cells #[.int .i64 s] 3)=W:=⟨_,rfl⟩
  have HBW:=Aside0.mk (show Below w.heap.size w W by rw[←hW];exact below_alloc (Below.refl _ _) _)
  have HD:=Aside0.mk (del_all v ls w.heap.size s W (h.row.below HBW.out) (by rw[←hW];exact cell1 (heap_alloc_new w (.cells #[.int .i64 s] 3))) ha)
  have HWE:=Aside0.mk hW
  have hcW:=pw_cell_below HBW.out hc
  clear h ha hW hc
  go_enter Tryz.func137,Tryz.ntmps137
  go_upto_region 1 with fail
  rw[HWE.out]
  go_wp2_with fail
  refine HD.out.mono ?_
  rintro e w1 ⟨v',rfl,ho,hat,hg⟩
  have HT1:=Aside0.mk (HT.out.below HBW.out)
  have hb1:w1.heap[p]? = some (.cells cs e (0,0)):=(hg.block p (heap_lt HT1.out.box) (fun e=>HT1.out.own_ne e.symm)).trans HT1.out.box
  have HP:=Aside0.mk ((lk_put HT1.out ho.1 ho.2 hg (.inl hat)).back HBW.out)
  obtain⟨A',c',rfl,_⟩:=ow_slice ho.1
  have hfz:w1.frozen? ⟨p,o,none⟩=false:=by simp[World.frozen?,hb1]
  have hcz:w1.cell? ⟨p,o,none⟩=some v:=by simp only[World.cell?,hb1];simpa using HT1.out.at0
  clear ho hat hg hb1
  go_wp2_with fail
  go_end0
  exact⟨rfl,HP.out⟩
end Go.Proofs.YtaplpeoikebedaaGreatDoor.LockF
namespace Go.Proofs.YtaplpeoikebedaaGreatDoor.FwdL
open Go.RowKit Go.Maps YtaplpeoikebedaaGreatDoorW.PrintWords YtaplpeoikebedaaGreatDoorW.PrintLast YtaplpeoikebedaaGreatDoorW.PrintMore
open See Mem Page Disk DiskN DiskW RecD Dirty Wal SysD SysM StoreD StoreF StoreH TransT LockT LockU LockF SpaceT WaitT FwdM FwdP FwdC FwdN EndT
attribute [local go_sem] max2_imax min2_imin max_two min_two
def leaveF (F:FS)(n id:Int):FS:={ F with S:=addRec F.S (recMark (tget F.ts id) 6),kept:=F.kept - 1,ts:=tdrop F.ts id,ks:=[],of:=upd F.of n 0 }
theorem leave_calls (a:Nat→Addr)(M:Nat→Prop)(sp lp pp dp qp mp:Nat)(blocks frames:Int)(F:FS)(n id:Int)(w:World)(h:FwM M w sp lp pp dp qp mp blocks frames F)(hs:SentsAll w a)(hO:OutAll M a)(h0:0≤n)(h1:n≤1000)(hof:F.of n=id)(hid:thas F.ts id=true)(hr:Rising (kvT F.ts))(htid:(tget F.ts id).id=id)(hk:1≤F.kept∧F.kept≤1073741824)(hrec:recOk (recMark (tget F.ts id) 6)=true)(hroom:1≤F.S.l.room)(hall : ∀x∈F.ks,x.s=n) :
    Calls Tryz.prog 77 #[.pointer (some ⟨sp,0,none⟩),.int .i64 n] w fun e w'=>e = .returned .nilIface∧FwPost M sp lp pp dp qp mp blocks frames (leaveF F n id) w w':=by
  have HF:=Aside0.mk (fun (W:World) (hb:Below w.heap.size w W)=>h.below hb)
  obtain⟨kv,tv,b1,_,_,b4,_⟩:=h.box
  have HG:=Aside0.mk (fun (W:World) (hb:Below w.heap.size w W)=>by
    have:=tget_calls sp 8 tv F.ts id W (b4.below hb) hr (pw_cell_below hb (show w.cell? ⟨sp,8,none⟩=some tv by simp[World.cell?,b1,fwCells]))
    rw[hid] at this
    exact this)
  have hspl:=heap_lt b1
  have HEND:=Aside0.mk (show ∀(V:World),Below w.heap.size w V→Calls Tryz.prog 136 #[.pointer (some ⟨lp,0,none⟩),.pointer (some ⟨sp,8,none⟩),.pointer (some ⟨qp,0,none⟩),txV (tget F.ts id)] V fun e w'=>e = .returned .nilIface∧FwPost M sp lp pp dp qp mp blocks frames { addK F (recMark (tget F.ts id) 6) with ts:=tdrop F.ts id } w w' from fun V hb=>
    (end_calls a M sp lp pp dp qp mp blocks frames F id V (h.below hb) (hs.below hb) hO hid hr htid hk hrec hroom).mono fun e w' hh=>⟨hh.1,hh.2.back hb⟩)
  have HALL:=Aside0.mk hall
  have HWF:=Aside0.mk (wf64 (n:=n) (by omega) (by omega))
  obtain⟨x,hxx⟩ : ∃x,tget F.ts id=x:=⟨_,rfl⟩
  have HXX:=Aside0.mk hxx
  rw[hxx] at HG HEND
  have hlk:=OfM.look h.of (s:=n) (by omega) (by omega)
  have hlk2:=OfM.look (HF.out (w.alloc z4) (below_alloc (Below.refl _ _) _)).of (s:=n) (by omega) (by omega)
  have hlk3:=OfM.look (HF.out w.drew (below_drew1 (Below.refl _ _))).of (s:=n) (by omega) (by omega)
  have hlk4:=OfM.look (HF.out (w.alloc z4).drew (below_drew1 (below_alloc (Below.refl _ _) _))).of (s:=n) (by omega) (by omega)
  have hlk5:=OfM.look (HF.out (w.drew.alloc z4) (below_alloc (below_drew1 (Below.refl _ _)) _)).of (s:=n) (by omega) (by omega)
  rw[hof] at hlk hlk2 hlk3 hlk4 hlk5
  obtain⟨_,_,k4,_,k7,_,k10,k11⟩:=h.cells
  have HC:=Aside0.mk (And.intro k4 k10)
  have HN:=Aside0.mk (And.intro h0 h1)
  have HH:=Aside0.mk h
  have HG2:=Aside0.mk (fun (V:World) (hb:Below w.heap.size w V) (b:Nat) (o:Obj) (hx:V.heap[b]? = some o)=>(HG.out V hb).mono (fun e w' h=>(⟨h.1,h.2,(h.2.block b (heap_lt hx)).trans hx⟩:e = .returned (.tuple #[txV x,.bool true])∧Below V.heap.size V w'∧w'.heap[b]? = some o)))
  obtain⟨xi,xs,xl,xn⟩:=x
  simp only[txV,z4] at *
  clear h hs hO hof hid hr htid hk hrec hroom hall hxx b1 b4 k4 k10 h0 h1
  go_enter Tryz.func77,Tryz.ntmps77
  go_upto_region 1 with fail
  go_cut [5,6] (fun v5 v6 wx=>v6 = .bool true∧∃b,v5 = .pointer (some ⟨b,0,none⟩)∧Aside0 (wx.heap[b]? = some (.cells #[.int .i64 xi,.int .i64 xs,.int .i64 xl,.int .i64 xn] 102 (0,0)))∧Aside0 (Below w.heap.size w wx))
  case first=>
    go_region_law (first
      | (go_simp;go_at_call 113;refine (HG2.out _ (by repeat (first | exact Below.refl _ _ | apply below_drew1 | apply below_alloc)) w.heap.size _ (by exact heap_alloc_new w _)).mono ?_;rintro e w2 ⟨rfl,hb2,hbo⟩;obtain⟨o0,o1,o2,o3,g0,g1,g2,g3⟩:=tx_cells hbo)
      | (go_simp;go_at_call 113;refine (HG.out _ (by repeat (first | exact Below.refl _ _ | apply below_drew1 | apply below_alloc))).mono ?_;rintro e w2 ⟨rfl,hb2⟩))
    all_goals
      have hbw:Below w.heap.size w w2:=below_step (by repeat (first | exact Below.refl _ _ | apply below_drew1 | apply below_alloc)) hb2
      first
        | (rw[show (((w2.setCell ⟨w.heap.size,0,none⟩ (.int .i64 xi)).setCell ⟨w.heap.size,1,none⟩ (.int .i64 xs)).setCell ⟨w.heap.size,2,none⟩ (.int .i64 xl)).setCell ⟨w.heap.size,3,none⟩ (.int .i64 xn)=txPut w2 w.heap.size ⟨xi,xs,xl,xn⟩ from rfl]
           have HH1:=Aside0.mk (txPut_heap hbo ⟨xi,xs,xl,xn⟩)
           have HH2:=Aside0.mk (txPut_below hbw (Nat.le_refl _) ⟨xi,xs,xl,xn⟩)
           clear o0 o1 o2 o3 g0 g1 g2 g3 hbo hb2 hbw hlk hlk2 hlk3 hlk4 hlk5
           generalize txPut w2 w.heap.size ⟨xi,xs,xl,xn⟩=wd at HH1 HH2 ⊢)
        | (have HH1:=Aside0.mk (heap_alloc_new w2 (.cells #[.int .i64 xi,.int .i64 xs,.int .i64 xl,.int .i64 xn] 102))
           have HH2:=Aside0.mk (below_alloc hbw (.cells #[.int .i64 xi,.int .i64 xs,.int .i64 xl,.int .i64 xn] 102))
           clear hb2 hbw hlk hlk2 hlk3 hlk4 hlk5
           generalize w2.alloc (.cells #[.int .i64 xi,.int .i64 xs,.int .i64 xl,.int .i64 xn] 102)=wd at HH1 HH2 ⊢)
      go_wp2_with fail
      go_meet
      exact⟨rfl,_,rfl,HH1,HH2⟩
  case rest=>
    obtain⟨rfl,b,rfl,HXB,HBC⟩:=hcut
    clear hlk hlk2 hlk3 hlk4 hlk5 k7 k11
    generalize wc=V0 at HXB HBC ⊢
    have j4:=pw_cell_below HBC.out HC.out.1
    have j10:=pw_cell_below HBC.out HC.out.2
    obtain⟨x0,x1,x2,x3,_,_,_,_⟩:=tx_cells HXB.out
    go_upto_region 2 with fail
    go_cut [7] (fun v7 wx=>v7 = .nilIface∧Aside0 (FwPost M sp lp pp dp qp mp blocks frames { addK F (recMark (tget F.ts id) 6) with ts:=tdrop F.ts id } w wx))
    case first=>
      go_region_law (first
        | (go_simp;go_at_call 136;refine (HEND.out _ (by repeat (first | exact HBC.out | apply below_drew1))).mono ?_;rintro e w4 ⟨rfl,hp4⟩;have HP4:=Aside0.mk hp4;clear hp4))
      all_goals
        go_wp2_with fail
        go_meet
        exact⟨rfl,by rw[HXX.out];exact HP4⟩
    case rest=>
      obtain⟨rfl,HP4⟩:=hcut
      generalize wc=V1 at HP4 ⊢
      clear j4 j10 x0 x1 x2 x3
      obtain⟨cs,kv2,hlk,hput⟩:=FwM.lks HP4.out.1
      have HLK:=Aside0.mk hlk
      have HPT:=Aside0.mk hput
      clear hlk hput
      go_wp2_with fail
      refine (free_calls _ sp 6 118 cs kv2 F.ks n _ HLK.out HALL.out).mono ?_
      rintro e w5 ⟨rfl,hpost⟩
      have HP5:=Aside0.mk (HPT.out _ _ hpost)
      clear hpost HLK HPT
      have j7:=HP5.out.1.cells.2.2.2.2.1
      go_wp2_with fail
      refine (wgone_nil sp 7 n _ j7 (by have:=HN.out;omega) (by have:=HN.out;omega)).mono ?_
      rintro e w6 ⟨rfl,hb6⟩
      have HP6:=Aside0.mk (FwPost.step HP5.out hb6)
      clear hb6 j7
      have j11:=HP6.out.1.cells.2.2.2.2.2.2.2
      obtain⟨n0,D,hown,hn0,hat⟩:=HP6.out.1.of
      have HOWN:=Aside0.mk hown
      have HAT:=Aside0.mk hat
      have HN0:=Aside0.mk hn0
      clear hown hat hn0
      go_wp2_with (first | (at_delete;refine wpList_delete_own _ rfl _ _ 116 3 rfl 3 (int_keyed Tryz.underlying3) Tryz.underlying116 _ mp n0 D rfl HOWN.out _ _ rfl (keyOf_int_mk Tryz.underlying3 HWF.out) ?_;intro w7 hown7 hg7))
      have HO7:=Aside0.mk (ofm_del (m:=F.most) HOWN.out HAT.out hown7 HN0.out)
      have HP7:=Aside0.mk (FwM.mp_ HP6.out.1 HO7.out hg7.grown)
      clear hown7 hg7 j11
      have HPA:=Aside0.mk (FwPost.trans HP4.out fun _=>FwPost.trans HP6.out fun _=>HP7.out)
      go_ret
      exact⟨rfl,HPA.out⟩
end Go.Proofs.YtaplpeoikebedaaGreatDoor.FwdL
namespace Go.Proofs.YtaplpeoikebedaaGreatDoor.BackM
open Go.RowKit Go.Maps YtaplpeoikebedaaGreatDoorW.PrintWords YtaplpeoikebedaaGreatDoorW.PrintLast YtaplpeoikebedaaGreatDoorW.PrintMore
open See Mem Page Disk Pool2 SysD SysM StoreD StoreF TransT LockT LockU SpaceT WaitT FwdM FwdP FwdC FwdT
attribute [local go_sem] max2_imax min2_imin max_two min_two
structure Sv where
  txn:Int
  l:List Int
structure BSt where
  F:FS
  sv:Int→Sv
  nu:Int
def rS (v:Value):Option (DataW Value×List MemPlace):=some (.held v,[])
def svV (t:Int)(sl:Value):Value:=.agg #[.int .i64 t,sl]
def svz:Value:=svV 0 (.slice none 0 0)
def SvM (w:World)(bm:Nat)(m:Int)(vv:Int→Value):Prop:=
  ∃(n:Nat) (D:DataW Value),w.ownsMap Tryz.prog 3 rS bm n D∧(n:Int)≤m∧∀s:Int,D.atKey (.int .i64 s) (.held svz) = .held (vv s)
theorem SvM.move {w w':World}{bm:Nat}{m:Int}{vv:Int→Value}(h:SvM w bm m vv)(hb:w'.heap[bm]? = w.heap[bm]?):SvM w' bm m vv:=by
  obtain⟨n,D,⟨es,cl,h1,h2⟩,h3⟩:=h
  exact⟨n,D,⟨es,cl,hb.trans h1,h2⟩,h3⟩
theorem SvM.map {w:World}{bm:Nat}{m:Int}{vv:Int→Value}(h:SvM w bm m vv) : ∃es cl,w.heap[bm]? = some (.map es cl):=by
  obtain⟨n,D,⟨es,cl,h1,h2⟩,h3⟩:=h
  exact⟨es,cl,h1⟩
structure BkIn (M:Nat→Prop) (w:World) (bp bm sp lp pp dp qp mp:Nat) (blocks frames:Int) (B:BSt) (R:Nat→Prop) (sl:Int→Value):Prop where
  box:w.heap[bp]? = some (.cells #[.pointer (some ⟨sp,0,none⟩),.map (some bm)] 61 (0,0))
  f:FwM R w sp lp pp dp qp mp blocks frames B.F
  map:SvM w bm B.nu (fun s=>svV (B.sv s).txn (sl s))
  row : ∀s,IS w 0 (sl s) (B.sv s).l
  r : ∀k,R k→M k∧k≠bp∧k≠bm∧∀s,(sl s).ownBlock≠some k
  own : ∀s k,(sl s).ownBlock=some k→M k
  apart : ∀s t k,(sl s).ownBlock=some k→(sl t).ownBlock=some k→s=t
  low:M bp∧M bm
def BkM (M:Nat→Prop)(w:World)(bp bm sp lp pp dp qp mp:Nat)(blocks frames:Int)(B:BSt):Prop := ∃R sl,BkIn M w bp bm sp lp pp dp qp mp blocks frames B R sl
def BkPost (M:Nat→Prop)(bp bm sp lp pp dp qp mp:Nat)(blocks frames:Int)(B:BSt)(w w':World):Prop:=BkM (Gr M w w') w' bp bm sp lp pp dp qp mp blocks frames B∧Kp M w w'
section
variable {M R:Nat→Prop}{bp bm sp lp pp dp qp mp:Nat}{blocks frames:Int}{B:BSt}{sl:Int→Value}{w w1 w2 w':World}
theorem BkIn.rowAt (h:BkIn M w bp bm sp lp pp dp qp mp blocks frames B R sl){s:Int}{k:Nat}(hk:(sl s).ownBlock=some k):k<w.heap.size∧tag w k=3∧¬R k:=by
  obtain⟨_,c,hc⟩:=ow_block (h.row s) hk
  exact⟨heap_lt hc,tag_of hc,fun hr=>(h.r k hr).2.2.2 s hk⟩
theorem BkIn.cells (h:BkIn M w bp bm sp lp pp dp qp mp blocks frames B R sl):w.cell? ⟨bp,0,none⟩=some (.pointer (some ⟨sp,0,none⟩))∧w.cell? ⟨bp,1,none⟩=some (.map (some bm)):=by
  have hb:=h.box
  refine⟨?_,?_⟩<;>simp[World.cell?,hb]
theorem BkIn.mono {M':Nat→Prop}(h:BkIn M w bp bm sp lp pp dp qp mp blocks frames B R sl)(hm : ∀k,M k→M' k):BkIn M' w bp bm sp lp pp dp qp mp blocks frames B R sl:=
  ⟨h.box,h.f,h.map,h.row,fun k hk=>⟨hm k (h.r k hk).1,(h.r k hk).2⟩,fun s k hk=>hm k (h.own s k hk),h.apart,hm _ h.low.1,hm _ h.low.2⟩
theorem BkM.mono {M':Nat→Prop}(h:BkM M w bp bm sp lp pp dp qp mp blocks frames B)(hm : ∀k,M k→M' k):BkM M' w bp bm sp lp pp dp qp mp blocks frames B:=by
  obtain⟨R,sl,h⟩:=h
  exact⟨R,sl,h.mono hm⟩
theorem BkM.below (h:BkM M w bp bm sp lp pp dp qp mp blocks frames B)(hb:Below w.heap.size w w'):BkM M w' bp bm sp lp pp dp qp mp blocks frames B:=by
  obtain⟨R,sl,h⟩:=h
  obtain⟨es,cl,hm⟩:=h.map.map
  exact⟨R,sl,(hb.block _ (heap_lt h.box)).trans h.box,h.f.below hb,h.map.move (hb.block _ (heap_lt hm)),fun s=>(h.row s).below hb,h.r,h.own,h.apart,h.low⟩
theorem BkIn.below (h:BkIn M w bp bm sp lp pp dp qp mp blocks frames B R sl)(hb:Below w.heap.size w w'):BkIn M w' bp bm sp lp pp dp qp mp blocks frames B R sl:=by
  obtain⟨es,cl,hm⟩:=h.map.map
  exact⟨(hb.block _ (heap_lt h.box)).trans h.box,h.f.below hb,h.map.move (hb.block _ (heap_lt hm)),fun s=>(h.row s).below hb,h.r,h.own,h.apart,h.low⟩
theorem BkIn.fwI (h:BkIn M w bp bm sp lp pp dp qp mp blocks frames B R sl){F':FS}(hp:FwPost R sp lp pp dp qp mp blocks frames F' w w'):BkIn (Gr M w w') w' bp bm sp lp pp dp qp mp blocks frames { B with F:=F' } (Gr R w w') sl∧Kp M w w':=by
  obtain⟨f,k⟩:=hp
  obtain⟨es,cl,hm⟩:=h.map.map
  have nb : ¬R bp:=fun hr=>(h.r bp hr).2.1 rfl
  have nm : ¬R bm:=fun hr=>(h.r bm hr).2.2.1 rfl
  refine⟨⟨k.at h.box nb,f,h.map.move (k.block _ (heap_lt hm) nm),fun s=>ow_move (h.row s) fun j hj => ?_,fun j hj => ?_,fun s j hj=>.inl (h.own s j hj),h.apart,.inl h.low.1,.inl h.low.2⟩,k.wide fun j hj=>(h.r j hj).1⟩
  · obtain⟨q1,_,q3⟩:=h.rowAt hj
    exact k.block j q1 q3
  · rcases hj with hj | ⟨q1,q2⟩
    · obtain⟨a,b,c,d⟩:=h.r j hj
      exact⟨.inl a,b,c,d⟩
    · refine⟨.inr ⟨q1,q2⟩,fun e => ?_,fun e => ?_,fun s hs => ?_⟩
      · have:=heap_lt h.box;omega
      · have:=heap_lt hm;omega
      · have:=(h.rowAt hs).1;omega
theorem BkIn.fw (h:BkIn M w bp bm sp lp pp dp qp mp blocks frames B R sl){F':FS}(hp:FwPost R sp lp pp dp qp mp blocks frames F' w w'):BkPost M bp bm sp lp pp dp qp mp blocks frames { B with F:=F' } w w':=⟨⟨_,sl,(h.fwI hp).1⟩,(h.fwI hp).2⟩
theorem BkIn.but (h:BkIn M w bp bm sp lp pp dp qp mp blocks frames B R sl){b:Nat}(hb : ∀k,k≠b→w'.heap[k]? = w.heap[k]?)(hn : ¬R b)(ht:tag w b∉dTags∧tag w b≠169)(h1:b≠bp)(h2:b≠bm)(h3:tag w b≠3):BkIn M w' bp bm sp lp pp dp qp mp blocks frames B R sl:=
  ⟨(hb bp h1.symm).trans h.box,FwM.but h.f hb hn ht,h.map.move (hb bm h2.symm),fun s=>ow_move (h.row s) fun j hj=>hb j fun e=>h3 (by rw[←e];exact (h.rowAt hj).2.1),h.r,h.own,h.apart,h.low⟩
theorem BkPost.refl (h:BkM M w bp bm sp lp pp dp qp mp blocks frames B):BkPost M bp bm sp lp pp dp qp mp blocks frames B w w:=⟨h.mono fun _ h=>.inl h,.refl _ _⟩
theorem BkPost.trans {B':BSt}(h:BkPost M bp bm sp lp pp dp qp mp blocks frames B w w1)(k:BkM (Gr M w w1) w1 bp bm sp lp pp dp qp mp blocks frames B→BkPost (Gr M w w1) bp bm sp lp pp dp qp mp blocks frames B' w1 w2):BkPost M bp bm sp lp pp dp qp mp blocks frames B' w w2:=by
  obtain⟨a,b⟩:=h
  obtain⟨c,d⟩:=k a
  exact⟨BkM.mono c fun j hj=>Gr.trans b.size d.size hj,b.transG d⟩
theorem BkPost.step (h:BkPost M bp bm sp lp pp dp qp mp blocks frames B w w1)(k:Below w1.heap.size w1 w2):BkPost M bp bm sp lp pp dp qp mp blocks frames B w w2:=
  ⟨BkM.mono (BkM.below h.1 k) fun j hj=>Gr.grow k.size hj,h.2.step k⟩
theorem BkM.cut (h:BkM M w bp bm sp lp pp dp qp mp blocks frames B):BkM (Cut M w.heap.size) w bp bm sp lp pp dp qp mp blocks frames B:=by
  obtain⟨R,sl,h⟩:=h
  obtain⟨es,cl,hm⟩:=h.map.map
  exact⟨Cut R w.heap.size,sl,h.box,FwM.cut h.f,h.map,h.row,fun k hk=>⟨⟨(h.r k hk.1).1,hk.2⟩,(h.r k hk.1).2⟩,fun s k hk=>⟨h.own s k hk,(h.rowAt hk).1⟩,h.apart,⟨h.low.1,heap_lt h.box⟩,⟨h.low.2,heap_lt hm⟩⟩
end
end Go.Proofs.YtaplpeoikebedaaGreatDoor.BackM
namespace Go.Proofs.YtaplpeoikebedaaGreatDoor.BackW
open Go.RowKit Go.Maps YtaplpeoikebedaaGreatDoorW.PrintWords YtaplpeoikebedaaGreatDoorW.PrintLast YtaplpeoikebedaaGreatDoorW.PrintMore
open See Mem Page Disk Dirty Pool2 SysD SysM StoreD StoreF TransT LockT LockU SpaceT WaitT FwdM FwdP FwdC FwdE FwdT BackM
attribute [local go_sem] max2_imax min2_imin max_two min_two
def slOf (B:BSt)(sl:Int→Value)(n id:Int):Value:=if (B.sv n).txn=id then sl n else .slice none 0 0
end Go.Proofs.YtaplpeoikebedaaGreatDoor.BackW
