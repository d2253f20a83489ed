/- Joined texts: StoreW, StoreK, BackA, TwiceD, RecsD, ValD, BackB, LockG. No condition but what each says. -/
import Derived.Test.YtaplpeoikebedaaGreatDoorY32
import Derived.Test.YtaplpeoikebedaaGreatDoorY33
import Derived.Test.YtaplpeoikebedaaGreatDoorY28
import Derived.Test.YtaplpeoikebedaaGreatDoorY29
set_option maxHeartbeats 8000000
set_option maxRecDepth 100000
set_option linter.unusedVariables false
set_option linter.unusedSimpArgs false
namespace Go.Proofs.YtaplpeoikebedaaGreatDoor.StoreW
open Go.RowKit See Mem Page PageB PageR PageL Disk DiskW RecD Dirty Dirty2 SysD SysM Wal WalF GoodD PoolG PoolS FlushG Fresh DirtD Pager StoreD PageM StoreF StoreG StoreH LockT LockU StoreI StoreJ StoreV BackD BackL
theorem takes_same {N m:Nat}{ch:Int→List Int}{kp:Int→Int}{F:FS}(h:FOk N m ch kp F)(n key md hint:Int):(∀k,recOf (takesF F n key md hint).S.l k=recOf F.S.l k)∧(takesF F n key md hint).S.frames=F.S.frames:=by
  obtain⟨p1,p2⟩:=placeOf_in key h.g.pg.pages
  obtain⟨S',e1,e2,e3,e4⟩:=get_ok h hint p1 p2
  have hF:(takesF F n key md hint).S=S':=by unfold takesF;rw[e1]
  obtain⟨l1,l2,l3,l4,l5⟩:=e3.ll
  rw[hF]
  exact⟨fun k=>recOf_done l2 l1 k,e3.frames⟩
end Go.Proofs.YtaplpeoikebedaaGreatDoor.StoreW
namespace Go.Proofs.YtaplpeoikebedaaGreatDoor.StoreK
open Go.RowKit See Mem Page PageB PageR PageL Disk DiskW RecD Dirty Dirty2 SysD SysM Wal WalF GoodD PoolG PoolS FlushG Fresh DirtD Pager StoreD PageM StoreF StoreG StoreH StoreI StoreJ
theorem sum_ge {f:Tx→Int} : ∀{l:List Tx} {x:Tx},x∈l→(∀y∈l,0≤f y)→f x≤(l.map f).sum
  | [],x,hx,_=>(List.not_mem_nil hx).elim
  | y :: l,x,hx,hf=>by
    have hn : ∀z:List Tx,(∀y∈z,0≤f y)→0≤(z.map f).sum:=fun z=>by
      induction z with
      | nil=>intro _;simp
      | cons a aa ih=>
        intro h
        have h1:=h a List.mem_cons_self
        have h2:=ih fun y hy=>h y (List.mem_cons_of_mem _ hy)
        rw[List.map_cons,List.sum_cons]
        omega
    rw[List.map_cons,List.sum_cons]
    rcases List.mem_cons.1 hx with rfl | hx
    · have:=hn l fun z hz=>hf z (List.mem_cons_of_mem _ hz)
      omega
    · have h1:=sum_ge hx fun z hz=>hf z (List.mem_cons_of_mem _ hz)
      have h2:=hf y List.mem_cons_self
      omega
theorem kept_ge {N m:Nat}{ch:Int→List Int}{kp:Int→Int}{F:FS}{id:Int}(h:FOk N m ch kp F)(hid:thas F.ts id=true)(hpos : ∀x,0≤kp x):kp id+((ch id).length:Int)≤F.kept:=by
  obtain⟨hx,hxid⟩:=tget_mem hid
  have:=sum_ge (f:=fun x=>kp x.id+((ch x.id).length:Int)) hx fun y _=>by have:=hpos y.id;show 0≤kp y.id+((ch y.id).length:Int);omega
  rw[←h.c.kept] at this
  rw[hxid] at this
  exact this
end Go.Proofs.YtaplpeoikebedaaGreatDoor.StoreK
namespace Go.Proofs.YtaplpeoikebedaaGreatDoor.BackA
open Go.RowKit See Mem RecD Dirty Wal WalF PoolG PoolS SysD SysM FlushG Pager StoreD PageM StoreF StoreG StoreH StoreI StoreJ StoreK BackD BackL FwdL
theorem updk_pos {kp:Int→Int}(h : ∀x,0≤kp x)(id:Int) : ∀x,0≤updk kp id 1 x:=fun x=>by
  unfold updk
  by_cases e:x=id
  · rw[if_pos e];omega
  · rw[if_neg e];exact h x
structure MarkIn (N m:Nat) (ch:Int→List Int) (kp:Int→Int) (F:FS) (id:Int):Prop where
  kept:1≤F.kept
  room:1≤F.S.l.room
  rec5:recOk (recMark (tget F.ts id) 5)=true
  rise1:Rising (kvT (tnote F.ts id (F.S.l.last+1) (tget F.ts id).next))
  has1:thas (tnote F.ts id (F.S.l.last+1) (tget F.ts id).next) id=true
  ok:FOk N m ch (updk kp id 1) (markF F id 5 2)
  has2:thas (markF F id 5 2).ts id=true
  vals_ : ∀j,vals (markF F id 5 2) j=vals F j
  old : ∀n r,recOf F.S.l n=some r→recOf (markF F id 5 2).S.l n=some r
theorem mark_in {N m:Nat}{ch:Int→List Int}{kp:Int→Int}{F:FS}{id:Int}(h:FOk N m ch kp F)(hid:thas F.ts id=true)(hkp:kp id=2)(hpos : ∀x,0≤kp x):MarkIn N m ch kp F id:=by
  obtain⟨ro1,ro2,ro3⟩:=h.g.room
  have hk:=kept_ge h hid hpos
  rw[hkp] at hk
  have hroom:1≤F.S.l.room:=by omega
  obtain⟨m1,m2⟩:=mark_ok (kind:=5) (st:=2) h hid (.inr rfl) hkp hroom (by omega)
  have hr1:=tnote_rise (id:=id) (l:=F.S.l.last+1) (n:=(tget F.ts id).next) h.t.rise
  have hh1:thas (tnote F.ts id (F.S.l.last+1) (tget F.ts id).next) id=true:=by
    rw[thas_ids hr1,ids_tnote,←thas_ids h.t.rise];exact hid
  refine⟨by omega,hroom,m1,hr1,hh1,m2,?_,fun j=>rfl,fun n r hn=>addRec_rec hn⟩
  show thas (tstate (tnote F.ts id (F.S.l.last+1) (tget F.ts id).next) id 2) id=true
  rw[thas_ids (tstate_rise hr1),ids_tstate,←thas_ids hr1];exact hh1
structure EndIn (F:FS) (id:Int):Prop where
  has_:thas F.ts id=true
  rise:Rising (kvT F.ts)
  tid:(tget F.ts id).id=id
  kept:1≤F.kept∧F.kept≤1073741824
  rec6:recOk (recMark (tget F.ts id) 6)=true
  room:1≤F.S.l.room
end Go.Proofs.YtaplpeoikebedaaGreatDoor.BackA
namespace Go.Proofs.YtaplpeoikebedaaGreatDoor.TwiceD
open Go.RowKit See Mem Page PageB PageR PageL Disk DiskW RecD Dirty Wal WalF PoolG PoolS SysD SysM Fresh FlushG Pager StoreD PageM StoreF StoreG StoreH StoreI StoreJ StoreK StoreV StoreW LockT LockU BackD BackL BackA
end Go.Proofs.YtaplpeoikebedaaGreatDoor.TwiceD
namespace Go.Proofs.YtaplpeoikebedaaGreatDoor.RecsD
open Go.RowKit See Mem Page PageB PageR PageL Disk DiskW RecD Dirty Dirty2 SysD SysM Wal WalF GoodD PoolG PoolS FlushG Fresh DirtD TabL Pager StoreD PageM StoreF StoreG StoreH TransT LockT LockU StoreI StoreJ StoreK RoomD
end Go.Proofs.YtaplpeoikebedaaGreatDoor.RecsD
namespace Go.Proofs.YtaplpeoikebedaaGreatDoor.ValD
open Go.RowKit See Mem Page PageB PageR PageL Disk DiskW RecD Dirty Dirty2 Wal WalF PoolG PoolS SysD SysM Fresh FlushG TabL Pager StoreD PageM StoreF StoreG StoreH StoreI StoreJ StoreV StoreW LockT LockU BackD BackL BackA
def tab (hs:Int→Bool)(vl:Int→Int)(j:Int):Option Int:=if hs j then some (vl j) else none
end Go.Proofs.YtaplpeoikebedaaGreatDoor.ValD
namespace Go.Proofs.YtaplpeoikebedaaGreatDoor.BackB
open Go.RowKit Go.Maps YtaplpeoikebedaaGreatDoorW.PrintWords YtaplpeoikebedaaGreatDoorW.PrintLast YtaplpeoikebedaaGreatDoorW.PrintMore
open See Mem Clone Go.Proofs.YtaplpeoikebedaaGreatDoor.Cell Page PageB PageR Disk Dirty Pool2 RecD Rec Wal WalF PoolG PoolS SysD SysM StoreD StoreF StoreH TransT LockT LockU SpaceT WaitT FwdM FwdP FwdC FwdE FwdT FwdB EndT FwdL BackD BackL BackA BackM BackW BackV BackU
attribute [local go_sem] max2_imax min2_imin max_two min_two
theorem sv_del {w':World}{bm n:Nat}{D:DataW Value}{m:Int}{vv:Int→Value}{s:Int}(hat : ∀s:Int,D.atKey (.int .i64 s) (.held svz) = .held (vv s))(h':w'.ownsMap Tryz.prog 3 rS bm n (D.del (.int .i64 s)))(hn:(n:Int)≤m):SvM w' bm m (fun t=>if t=s then svz else vv t):=by
  refine⟨n,_,h',hn,fun t => ?_⟩
  show _=DataW.held (if t=s then svz else vv t)
  by_cases e:t=s
  · rw[if_pos e,e]
    exact atKey_del_same _
  · rw[if_neg e,atKey_del_other (fun h=>e (by injection h)),hat]
end Go.Proofs.YtaplpeoikebedaaGreatDoor.BackB
namespace Go.Proofs.YtaplpeoikebedaaGreatDoor.LockG
open Go.RowKit YtaplpeoikebedaaGreatDoorW.PrintWords YtaplpeoikebedaaGreatDoorW.PrintLast YtaplpeoikebedaaGreatDoorW.PrintMore
open See Mem Clone Go.Proofs.YtaplpeoikebedaaGreatDoor.Cell Page PageR Disk DiskN Pool1 Pool2 Rw Del Num SortI StoreD TransT LockT LockU LockF
attribute [local go_sem] max2_imax min2_imin max_two min_two
def fIdx (s:Int):List Lk→Int→Int
  | [],_ => -1
  | h :: hs,k=>if h.s=s then k else fIdx s hs (k+1)
theorem fIdx_none {s:Int} : ∀{ls:List Lk} (k:Int),(∀h∈ls,h.s≠s)→fIdx s ls k = -1
  | [],_,_=>rfl
  | h :: hs,k,hn=>by
    unfold fIdx
    rw[if_neg (hn h List.mem_cons_self),fIdx_none (k+1) fun x hx=>hn x (List.mem_cons_of_mem _ hx)]
theorem fIdx_hit {s:Int} : ∀{ls:List Lk} (k:Int) (i:Nat) (f:Lk),ls[i]? = some f→f.s=s→(∀h∈ls.take i,h.s≠s)→fIdx s ls k=k+i
  | [],k,i,f,h,_,_=>by simp at h
  | g :: hs,k,0,f,h,e,_=>by
    simp at h
    subst h
    unfold fIdx
    rw[if_pos e]
    omega
  | g :: hs,k,i+1,f,h,e,hn=>by
    unfold fIdx
    rw[if_neg (hn g (by simp)),fIdx_hit (k+1) i f (by simpa using h) e fun x hx=>hn x (by rw[List.take_succ_cons];exact List.mem_cons_of_mem _ hx)]
    push_cast
    omega
theorem fIdx_or (s:Int)(ls:List Lk):(∀h∈ls,h.s≠s)∨∃i f,ls[i]? = some f∧f.s=s∧∀h∈ls.take i,h.s≠s:=by
  induction ls with
  | nil=>exact .inl fun h hh=>(List.not_mem_nil hh).elim
  | cons g gs ih=>
    by_cases e:g.s=s
    · exact .inr ⟨0,g,rfl,e,fun h hh=>by simp at hh⟩
    · rcases ih with ih | ⟨i,f,h1,h2,h3⟩
      · exact .inl fun h hh=>by
          rcases List.mem_cons.1 hh with rfl | hh
          · exact e
          · exact ih h hh
      · refine .inr ⟨i+1,f,by simpa using h1,h2,fun h hh => ?_⟩
        rw[List.take_succ_cons] at hh
        rcases List.mem_cons.1 hh with rfl | hh
        · exact e
        · exact h3 h hh
theorem freeL_none {ls:List Lk}{s:Int}(h : ∀x∈ls,x.s≠s):freeL ls s=ls:=by
  unfold freeL
  rw[List.filter_eq_self]
  intro x hx
  simpa using h x hx
def curL (ls:List Lk)(s:Int)(j:Nat):List Lk:=freeL (ls.take j) s++ls.drop (freeL (ls.take j) s).length
theorem free_take {ls:List Lk}{s:Int}{j:Nat}{f:Lk}(h:ls[j]? = some f):freeL (ls.take (j+1)) s=freeL (ls.take j) s++(if f.s=s then [] else [f]):=by
  obtain⟨h1,h2⟩:=List.getElem?_eq_some_iff.1 h
  unfold freeL
  rw[List.take_succ_eq_append_getElem h1,List.filter_append,h2]
  by_cases e:f.s=s<;>simp[e]
theorem free_len (ls:List Lk)(s:Int)(j:Nat):(freeL (ls.take j) s).length≤j:=by
  unfold freeL
  refine Nat.le_trans (List.length_filter_le _ _) ?_
  rw[List.length_take]
  omega
theorem cur_len {ls:List Lk}{s:Int}{j:Nat}(hj:j≤ls.length):(curL ls s j).length=ls.length:=by
  have:=free_len ls s j
  unfold curL
  rw[List.length_append,List.length_drop]
  omega
theorem cur_at {ls:List Lk}{s:Int}{j:Nat}:(curL ls s j)[j]? = ls[j]? := by
  have:=free_len ls s j
  unfold curL
  rw[List.getElem?_append_right this,List.getElem?_drop]
  congr 1
  omega
theorem cur_skip {ls:List Lk}{s:Int}{j:Nat}{f:Lk}(h:ls[j]? = some f)(e:f.s=s):curL ls s (j+1)=curL ls s j:=by
  unfold curL
  rw[free_take h,if_pos e,List.append_nil]
theorem cur_move {ls:List Lk}{s:Int}{j:Nat}{f:Lk}(h:ls[j]? = some f)(e:f.s≠s):curL ls s (j+1)=(curL ls s j).set (freeL (ls.take j) s).length f∧(freeL (ls.take (j+1)) s).length=(freeL (ls.take j) s).length+1:=by
  have hl:=free_len ls s j
  have hj:=(List.getElem?_eq_some_iff.1 h).1
  have hf:=free_take (s:=s) h
  rw[if_neg e] at hf
  refine⟨?_,by rw[hf,List.length_append];rfl⟩
  unfold curL
  rw[hf]
  obtain⟨D,hD⟩ : ∃D,freeL (ls.take j) s=D:=⟨_,rfl⟩
  rw[hD] at hl ⊢
  rw[List.set_append_right _ _ (Nat.le_refl _),Nat.sub_self,List.length_append]
  have:ls.drop D.length=ls[D.length] :: ls.drop (D.length+1):=List.drop_eq_getElem_cons (by omega)
  rw[this,List.set_cons_zero]
  simp
theorem lk_set : ∀(ls:List Lk) (i:Nat) (f:Lk),i<ls.length→lkCells (ls.set i f)=setL (lkCells ls) (i*3) [.int .i64 f.s,.int .i64 f.key,.int .i64 f.mode]
  | [],i,f,h=>by simp at h
  | g :: gs,0,f,_=>by simp[lkCells,setL]
  | g :: gs,i+1,f,h=>by
    have ih:=lk_set gs i f (by simpa using h)
    have e:(i+1)*3=i*3+1+1+1:=by omega
    unfold lkCells at ih ⊢
    rw[List.set_cons_succ,List.flatMap_cons,List.flatMap_cons,ih,e]
    simp[setL]
theorem index_some (v:Value)(fs:List Lk)(b1:Nat)(s:Int)(w:World)(hf:LR w v fs)(h1:w.cell? ⟨b1,0,none⟩=some (.int .i64 s)) :
    Calls Tryz.prog 175 #[v,.func (.func 194) #[] #[.pointer (some ⟨b1,0,none⟩)]] w fun e w'=>e = .returned (.int .i64 (fIdx s fs 0))∧Below w.heap.size w w':=by
  obtain⟨A,cap,rfl,_⟩:=ow_slice hf.1
  obtain⟨l,hl⟩ : ∃l,fs.length=l:=⟨_,rfl⟩
  have HL:=Aside0.mk hl
  have HF:=Aside0.mk hf
  have HC1:=Aside0.mk h1
  have hl8:l≤100000:=by rw[←hl];exact hf.2
  rw[hl]
  clear hf h1 hl
  go_enter Tryz.func175,Tryz.ntmps175
  go_wp2_with fail
  go_loopg [8] (l+1) (fun kq v8 w' => ∃i:Int,v8 = .int .i64 i∧Aside0 (0≤i∧i≤l∧(kq:Int)=l+1 - i)∧Aside0 (∀h∈fs.take i.toNat,h.s≠s)∧Aside0 (Below w.heap.size w w'))
  case atStart=>exact⟨0,rfl,⟨by omega,by omega,by omega⟩,⟨fun h hh=>by simp at hh⟩,⟨Below.refl _ _⟩⟩
  case round=>
    obtain⟨i,rfl,HI,HN,HB⟩:=hrel
    have hi0:0≤i:=HI.out.1
    by_cases hlt:i<l
    · obtain⟨f,hf⟩ : ∃f,fs[i.toNat]? = some f:=⟨_,List.getElem?_eq_getElem (by have:=HL.out;omega)⟩
      obtain⟨g,rfl,hll,hd0,hd1,hd2⟩:=(HF.out.below HB.out).at hf
      have HFF:=Aside0.mk hf
      obtain⟨fs1,fk,fm⟩:=f
      simp only at hd0 hd1 hd2
      have hwi:IntKind.i64.wrap (i+1)=i+1:=by rw[IntKind.wrap_i64];omega
      clear hf hll
      go_wp2_with fail
      refine (clos_free b1 s fs1 fk fm _ (pw_cell_below HB.out HC1.out)).mono ?_
      rintro e w1 ⟨rfl,hb⟩
      have HB1:=Aside0.mk (below_step HB.out hb)
      clear hb
      by_cases hq:fs1=s
      · have HI2:=Aside0.mk (show fIdx s fs 0=i from by
          rw[fIdx_hit 0 i.toNat _ HFF.out hq HN.out];omega)
        rw[show (fs1 == s)=true from by simp[hq]]
        go_wp2_with fail
        refine bodyPost_ret (v:=.int .i64 i) (by simp[results,Tryz.results175,go_sem]) rfl ⟨by rw[HI2.out],HB1.out⟩
      · have HN2:=Aside0.mk (show ∀h∈fs.take (i+1).toNat,h.s≠s from fun h hh=>by
          rw[show (i+1).toNat=i.toNat+1 from by omega,List.take_succ_eq_append_getElem (List.getElem?_eq_some_iff.1 HFF.out).1,(List.getElem?_eq_some_iff.1 HFF.out).2] at hh
          rcases List.mem_append.1 hh with hh | hh
          · exact HN.out h hh
          · rw[List.mem_singleton] at hh;rw[hh];exact hq)
        rw[show (fs1 == s)=false from by simp[hq]]
        go_wp2_with fail
        go_roundg (gk - 1)
        case measure=>have:=HI.out;omega
        case rel=>exact⟨i+1,rfl,⟨by omega,by omega,by have:=HI.out;omega⟩,HN2,HB1⟩
    · have HI2:=Aside0.mk (show fIdx s fs 0 = -1 from fIdx_none 0 fun h hh=>HN.out h (by rw[List.take_of_length_le (by have:=HI.out;have:=HL.out;omega)];exact hh))
      go_wp2_with fail
      refine bodyPost_ret (v:=.int .i64 (-1)) (by simp[results,Tryz.results175,go_sem]) rfl ⟨by rw[HI2.out],HB.out⟩
theorem clear_at (w:World)(ty:TypeId)(b o n c:Nat)(hn:0<n)(hc : ∀j,j<n*3→(w.cell? ⟨b,o+j,none⟩).isSome=true)(hf : ∀j,w.frozen? ⟨b,j,none⟩=false) :
    (Builtin.clear_ #[107] ty #[.slice (some ⟨b,o,none⟩) n c]).run Tryz.prog w = .ok (.tuple #[]) (w.setCells b o (List.replicate (n*3) (.int .i64 0))):=by
  have hst:=run_storeCells_cells (P:=Tryz.prog) b o (List.replicate (n*3) (.int .i64 0)) 0 w (by simpa using hc) (fun j hj=>hf _) (fun u hu=>by rw[List.eq_of_mem_replicate hu];rfl)
  simp only[Nat.add_zero] at hst
  obtain⟨m,rfl⟩ : ∃m,n=m+1:=⟨n - 1,by omega⟩
  simp[Builtin.clear_,run_underlying Tryz.underlying107,lkzero,zeros_lk,hst]
theorem setL_take : ∀(vs:List Value) (o:Nat) (xs:List Value),(setL xs o vs).take o=xs.take o
  | [],o,xs=>rfl
  | v :: vs,o,xs=>by
    show (setL (xs.set o v) (o+1) vs).take o=_
    have h:=setL_take vs (o+1) (xs.set o v)
    have h2:(setL (xs.set o v) (o+1) vs).take o=((setL (xs.set o v) (o+1) vs).take (o+1)).take o:=by rw[List.take_take];congr 1;omega
    rw[h2,h,List.take_take,Nat.min_eq_left (Nat.le_succ o),List.take_set_of_le (Nat.le_refl o)]
theorem lk_take (a b:List Lk):(lkCells (a++b)).take (a.length*3)=lkCells a:=by
  unfold lkCells
  rw[List.flatMap_append]
  have:(a.flatMap fun h=>[Value.int .i64 h.s,.int .i64 h.key,.int .i64 h.mode]).length=a.length*3:=lkCells_len a
  rw[←this,List.take_left']
  rfl
theorem del_some (v:Value)(fs:List Lk)(b1:Nat)(s:Int)(w:World)(hf:LR w v fs)(h1:w.cell? ⟨b1,0,none⟩=some (.int .i64 s))(hne:v.ownBlock≠some b1) :
    Calls Tryz.prog 193 #[v,.func (.func 194) #[] #[.pointer (some ⟨b1,0,none⟩)]] w fun e w' => ∃v',e = .returned v'∧LR w' v' (freeL fs s)∧v'.ownBlock=v.ownBlock∧w.grownBy w' v.ownBlock:=by
  have HIX:=Aside0.mk (index_some v fs b1 s w hf h1)
  obtain⟨l,hl⟩ : ∃l,fs.length=l:=⟨_,rfl⟩
  have HF:=Aside0.mk hf
  have HL:=Aside0.mk hl
  have HC1:=Aside0.mk h1
  obtain⟨A,cap,hv,_⟩:=ow_slice hf.1
  have hl8:l≤100000:=by rw[←hl];exact hf.2
  rw[hl] at hv
  subst hv
  rcases fIdx_or s fs with hno | ⟨i0,f0,hi0,hf0,hbe⟩
  · have HR:=Aside0.mk (show freeL fs s=fs from freeL_none hno)
    rw[fIdx_none 0 hno] at HIX
    clear hf h1 hl hno hne
    go_enter Tryz.func193,Tryz.ntmps193
    go_wp2_with fail
    refine HIX.out.mono ?_
    rintro e w1 ⟨rfl,hb⟩
    have HB:=Aside0.mk hb
    clear hb
    go_wp2_with fail
    go_ret
    exact⟨_,rfl,by rw[HR.out];exact HF.out.below HB.out,rfl,⟨HB.out.os,HB.out.tape,HB.out.output,HB.out.size,fun k hk _=>HB.out.block k hk⟩⟩
  · have hi0l:=(List.getElem?_eq_some_iff.1 hi0).1
    rw[fIdx_hit 0 i0 f0 hi0 hf0 hbe] at HIX
    obtain⟨g,rfl⟩ : ∃g,A=some ⟨g,0,none⟩:=by
      rcases hf.form with ⟨_,e⟩ | ⟨g,c,e,_⟩
      · rw[e] at hi0l;simp at hi0l
      · injection e with e1;exact⟨g,e1⟩
    have hgb:g≠b1:=fun e=>hne (by rw[e];rfl)
    have HD0:=Aside0.mk (show freeL (fs.take (i0+1)) s=fs.take i0 from by rw[free_take hi0,if_pos hf0,List.append_nil,freeL_none hbe])
    have HC0:=Aside0.mk (show curL fs s (i0+1)=fs from by
      unfold curL
      rw[HD0.out,List.length_take,Nat.min_eq_left (by omega),List.take_append_drop])
    obtain⟨ii,hii⟩ : ∃i:Int,(0:Int)+(i0:Int)=i:=⟨_,rfl⟩
    rw[hii] at HIX
    have hwi:IntKind.i64.wrap (ii+1)=ii+1:=by rw[IntKind.wrap_i64];omega
    have hin:(ii == -1)=false:=beq_eq_false_iff_ne.2 (by omega)
    have HII:=Aside0.mk (show ii=i0∧i0<l from⟨by omega,by omega⟩)
    clear hf h1 hl hi0 hbe hne hii
    go_enter Tryz.func193,Tryz.ntmps193
    go_wp2_with fail
    refine HIX.out.mono ?_
    rintro e w1 ⟨rfl,hb⟩
    have HB1:=Aside0.mk hb
    clear hb
    go_wp2_with fail
    go_loopg [5,6] (l+1) (fun kq v5 v6 w' => ∃(d j:Int),v5 = .int .i64 d∧v6 = .int .i64 j∧Aside0 (0≤d∧d+1≤j∧j≤l∧(l:Int) - j+1≤kq∧d=((freeL (fs.take j.toNat) s).length:Nat))∧Aside0 (LR w' (.slice (some ⟨g,0,none⟩) l cap) (curL fs s j.toNat))∧Aside0 (w.grownBy w' (some g)))
    case atStart=>
      have hlr:=HF.out.below HB1.out
      refine⟨ii,ii+1,rfl,rfl,⟨by have:=HII.out;omega,by omega,by have:=HII.out;omega,by have:=HII.out;omega,?_⟩,⟨?_⟩,⟨HB1.out.os,HB1.out.tape,HB1.out.output,HB1.out.size,fun k hk _=>HB1.out.block k hk⟩⟩
      · rw[show (ii+1).toNat=i0+1 from by have:=HII.out;omega,HD0.out,List.length_take]
        have:=HII.out
        have:=HL.out
        omega
      · rw[show (ii+1).toNat=i0+1 from by have:=HII.out;omega,HC0.out]
        exact hlr
    case round=>
      obtain⟨d,j,rfl,rfl,HJ,HR,HG⟩:=hrel
      have hj0:0≤d∧d+1≤j:=⟨HJ.out.1,HJ.out.2.1⟩
      have hcb:wr.cell? ⟨b1,0,none⟩=some (.int .i64 s):=by
        have hlt:=World.block_lt_of_cell? _ _ HC1.out
        rw[World.cell?_of_block (w:=w) (a:=⟨b1,0,none⟩) (HG.out.block b1 hlt (fun e=>hgb (by injection e with e;exact e.symm)))]
        exact HC1.out
      have HCB:=Aside0.mk hcb
      clear hcb
      by_cases hlt:j<l
      · obtain⟨f,hf⟩ : ∃f,fs[j.toNat]? = some f:=⟨_,List.getElem?_eq_getElem (by have:=HL.out;omega)⟩
        have hcur:(curL fs s j.toNat)[j.toNat]? = some f:=by rw[cur_at];exact hf
        obtain⟨g',hg',hll,hd0,hd1,hd2⟩:=HR.out.at hcur
        obtain rfl:g=g':=by simpa using hg'
        have HFF:=Aside0.mk hf
        obtain⟨fs1,fk,fm⟩:=f
        simp only at hd0 hd1 hd2
        have hwj:IntKind.i64.wrap (j+1)=j+1:=by rw[IntKind.wrap_i64];omega
        have hwd:IntKind.i64.wrap (d+1)=d+1:=by rw[IntKind.wrap_i64];omega
        have hd0':0≤d:=hj0.1
        have hj0':0≤j:=by omega
        have hdl:d<l:=by omega
        clear hf hll hg' hcur
        go_wp2_with fail
        refine (clos_free b1 s fs1 fk fm _ (pw_cell_below (below_alloc (Below.refl _ _) _) HCB.out)).mono ?_
        rintro e w2 ⟨rfl,hb⟩
        have HB2:=Aside0.mk (below_step (below_alloc (Below.refl wr.heap.size wr) _) hb)
        have HR2:=Aside0.mk (HR.out.below HB2.out)
        have HG2:=Aside0.mk (show w.grownBy w2 (some g) from⟨HB2.out.os.trans HG.out.os,HB2.out.tape.trans HG.out.tape,HB2.out.output.trans HG.out.output,Nat.le_trans HG.out.size HB2.out.size,fun k hk hn=>(HB2.out.block k (Nat.lt_of_lt_of_le hk HG.out.size)).trans (HG.out.block k hk hn)⟩)
        have HBK:=Aside0.mk ((hb.block wr.heap.size (by show _<(wr.heap.push _).size;rw[Array.size_push];omega)).trans (heap_alloc_new wr (.cells #[.int .i64 fs1,.int .i64 fk,.int .i64 fm] 265)))
        clear hb
        by_cases hq:fs1=s
        · have HS:=Aside0.mk (cur_skip HFF.out hq)
          have HT:=Aside0.mk (show freeL (fs.take (j.toNat+1)) s=freeL (fs.take j.toNat) s by rw[free_take HFF.out,if_pos hq,List.append_nil])
          rw[show (fs1 == s)=true from by simp[hq]]
          go_wp2_with fail
          go_roundg (gk - 1)
          case measure=>have:=HJ.out;omega
          case rel=>
            have hjn:(j+1).toNat=j.toNat+1:=by omega
            exact⟨d,j+1,rfl,rfl,⟨by omega,by omega,by omega,by have:=HJ.out;omega,by rw[hjn,HT.out];exact HJ.out.2.2.2.2⟩,⟨by rw[hjn,HS.out];exact HR2.out⟩,HG2⟩
        · obtain⟨m1,m2⟩:=cur_move HFF.out hq
          have HMV:=Aside0.mk (And.intro m1 m2)
          have hown:=HR2.out.1
          have hlc:(curL fs s j.toNat).length=l:=by rw[cur_len (by have:=HL.out;omega)];exact HL.out
          rw[hlc] at hown
          obtain⟨hcs,hfz,_,hnc,_⟩:=own_cells hown
          have hdn:d.toNat*3+2<cap*3:=by omega
          obtain⟨y0,hy0⟩:=Option.isSome_iff_exists.1 (hcs (d.toNat*3) (by omega))
          obtain⟨y1,hy1⟩:=Option.isSome_iff_exists.1 (hcs (d.toNat*3+1) (by omega))
          obtain⟨y2,hy2⟩:=Option.isSome_iff_exists.1 (hcs (d.toNat*3+2) (by omega))
          have z0:=hfz (d.toNat*3)
          have z1:=hfz (d.toNat*3+1)
          have z2:=hfz (d.toNat*3+2)
          have HOW:=Aside0.mk hown
          have HLC:=Aside0.mk hlc
          obtain⟨b0,b1',b2,_⟩:w2.cell? ⟨wr.heap.size,0,none⟩=some (.int .i64 fs1)∧w2.cell? ⟨wr.heap.size,1,none⟩=some (.int .i64 fk)∧w2.cell? ⟨wr.heap.size,2,none⟩=some (.int .i64 fm)∧True:=by
            have:=HBK.out
            refine⟨?_,?_,?_,trivial⟩<;>simp[World.cell?,this]
          clear hcs hfz hown m1 m2 hlc
          rw[show (fs1 == s)=false from by simp[hq]]
          go_wp2_with fail
          rw[show ((w2.setCell ⟨g,d.toNat*3,none⟩ (.int .i64 fs1)).setCell ⟨g,d.toNat*3+1,none⟩ (.int .i64 fk)).setCell ⟨g,d.toNat*3+2,none⟩ (.int .i64 fm)=w2.setCells g (d.toNat*3) [.int .i64 fs1,.int .i64 fk,.int .i64 fm] from rfl]
          obtain⟨o1,o2⟩:=own_setCells [.int .i64 fs1,.int .i64 fk,.int .i64 fm] (d.toNat*3) w2 _ HOW.out
          have hdn2:(freeL (fs.take j.toNat) s).length=d.toNat:=by have:=HJ.out;omega
          have HR3:=Aside0.mk (show LR (w2.setCells g (d.toNat*3) [.int .i64 fs1,.int .i64 fk,.int .i64 fm]) (.slice (some ⟨g,0,none⟩) l cap) (curL fs s (j.toNat+1)) from by
            refine⟨?_,?_⟩
            · rw[HMV.out.1,hdn2,List.length_set,HLC.out,lk_set _ _ _ (by rw[HLC.out];omega)]
              exact o1
            · rw[HMV.out.1,List.length_set,HLC.out];exact hl8)
          have HG3:=Aside0.mk (show w.grownBy (w2.setCells g (d.toNat*3) [.int .i64 fs1,.int .i64 fk,.int .i64 fm]) (some g) from⟨o2.os.trans HG2.out.os,o2.tape.trans HG2.out.tape,o2.output.trans HG2.out.output,Nat.le_trans HG2.out.size o2.size,fun k hk hn=>(o2.block k (Nat.lt_of_lt_of_le hk HG2.out.size) hn).trans (HG2.out.block k hk hn)⟩)
          clear o1 o2
          generalize w2.setCells g (d.toNat*3) [.int .i64 fs1,.int .i64 fk,.int .i64 fm]=w3 at HR3 HG3 ⊢
          go_roundg (gk - 1)
          case measure=>have:=HJ.out;omega
          case rel=>
            have hjn:(j+1).toNat=j.toNat+1:=by omega
            exact⟨d+1,j+1,rfl,rfl,⟨by omega,by omega,by omega,by have:=HJ.out;omega,by rw[hjn,HMV.out.2];have:=HJ.out;push_cast;omega⟩,⟨by rw[hjn];exact HR3.out⟩,HG3⟩
      · have hjl:j=l:=by have:=HJ.out;omega
        have hown:=HR.out.1
        have hlc:(curL fs s j.toNat).length=l:=by rw[cur_len (by have:=HL.out;omega)];exact HL.out
        rw[hlc] at hown
        have HOW:=Aside0.mk hown
        obtain⟨hcs,hfz,_,hnc,hcm⟩:=own_cells hown
        have hdl:d<l:=by omega
        have hd0':0≤d:=hj0.1
        clear hown hlc
        have hcl:=fun ty=>clear_at wr ty g (d.toNat*3) (l - d.toNat) (cap - d.toNat) (by omega) (fun j hj=>hcs _ (by omega)) hfz
        clear hcs hfz
        go_wp2_with fail
        obtain⟨o1,o2⟩:=own_setCells (List.replicate ((l - d.toNat)*3) (.int .i64 0)) (d.toNat*3) wr _ HOW.out
        have o3:=own_cut o1 (show d.toNat≤l by omega)
        have hjn:j.toNat=l:=by omega
        have hfr:freeL (fs.take j.toNat) s=freeL fs s:=by rw[hjn,List.take_of_length_le (Nat.le_of_eq HL.out)]
        have hdn2:(freeL fs s).length=d.toNat:=by have:=HJ.out;rw[hfr] at this;omega
        refine bodyPost_ret (v:=.slice (some ⟨g,0,none⟩) d.toNat cap) (by simp[results,Tryz.results193,go_sem]) rfl ⟨_,rfl,⟨?_,by rw[hdn2];omega⟩,rfl,?_⟩
        · rw[setL_take] at o3
          have hc:curL fs s j.toNat=freeL fs s++fs.drop (freeL fs s).length:=by unfold curL;rw[hfr]
          rw[hc,←hdn2,lk_take] at o3
          rw[←hdn2]
          exact o3
        · exact⟨o2.os.trans HG.out.os,o2.tape.trans HG.out.tape,o2.output.trans HG.out.output,Nat.le_trans HG.out.size o2.size,fun k hk hn=>(o2.block k (Nat.lt_of_lt_of_le hk HG.out.size) hn).trans (HG.out.block k hk hn)⟩
theorem free2_calls (M:Nat→Prop)(p o e:Nat)(cs:Array Value)(v:Value)(ls:List Lk)(s:Int)(w:World)(h:LkM M w p o e cs v ls) :
    Calls Tryz.prog 137 #[.pointer (some ⟨p,o,none⟩),.int .i64 s] w fun e' w'=>e' = .returned (.tuple #[])∧LkPost M p o e cs (freeL ls s) w w':=by
  have HT:=Aside0.mk h
  have hpl:=heap_lt h.box
  have hc:=h.cell
  obtain⟨W,hW⟩ : ∃W,w.alloc (.cells #[.int .i64 s] 3)=W:=⟨_,rfl⟩
  have HBW:=Aside0.mk (show Below w.heap.size w W by rw[←hW];exact below_alloc (Below.refl _ _) _)
  have HD:=Aside0.mk (del_some v ls w.heap.size s W (h.row.below HBW.out) (by rw[←hW];exact cell1 (heap_alloc_new w (.cells #[.int .i64 s] 3))) (fun e=>by
    obtain⟨_,c,hc2⟩:=ow_block h.row.1 e
    have:=heap_lt hc2
    omega))
  have HWE:=Aside0.mk hW
  have hcW:=pw_cell_below HBW.out hc
  clear h hW hc
  go_enter Tryz.func137,Tryz.ntmps137
  go_upto_region 1 with fail
  rw[HWE.out]
  go_wp2_with fail
  refine HD.out.mono ?_
  rintro e w1 ⟨v',rfl,ho,hat,hg⟩
  have HT1:=Aside0.mk (HT.out.below HBW.out)
  have hb1:w1.heap[p]? = some (.cells cs e (0,0)):=(hg.block p (heap_lt HT1.out.box) (fun e=>HT1.out.own_ne e.symm)).trans HT1.out.box
  have HP:=Aside0.mk ((lk_put HT1.out ho.1 ho.2 hg (.inl hat)).back HBW.out)
  obtain⟨A',c',rfl,_⟩:=ow_slice ho.1
  have hfz:w1.frozen? ⟨p,o,none⟩=false:=by simp[World.frozen?,hb1]
  have hcz:w1.cell? ⟨p,o,none⟩=some v:=by simp only[World.cell?,hb1];simpa using HT1.out.at0
  clear ho hat hg hb1
  go_wp2_with fail
  go_end0
  exact⟨rfl,HP.out⟩
end Go.Proofs.YtaplpeoikebedaaGreatDoor.LockG
