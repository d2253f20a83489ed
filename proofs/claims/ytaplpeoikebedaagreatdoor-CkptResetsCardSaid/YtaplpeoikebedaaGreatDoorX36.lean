/- Joined texts: BackB, LockG, FwdQ, BackQ, FullD, CkptD, MasC, MasT, CkptM, FwdO. No condition but what each says. -/
import Derived.Test.YtaplpeoikebedaaGreatDoorX35
import Derived.Test.YtaplpeoikebedaaGreatDoorX34
import Derived.Test.YtaplpeoikebedaaGreatDoorX31
import Derived.Test.YtaplpeoikebedaaGreatDoorX20
import Derived.Test.YtaplpeoikebedaaGreatDoorX10
import Derived.Test.YtaplpeoikebedaaGreatDoorX9
import Derived.Deep.DeepCutAuto
import Derived.Deep.RegionLaw
import Derived.BigQuiet
set_option maxHeartbeats 8000000
set_option maxRecDepth 100000
set_option linter.unusedVariables false
set_option linter.unusedSimpArgs false
namespace Go.Proofs.YtaplpeoikebedaaGreatDoor.BackB
open Go.RowKit Go.Maps YtaplpeoikebedaaGreatDoorW.PrintWords YtaplpeoikebedaaGreatDoorW.PrintLast YtaplpeoikebedaaGreatDoorW.PrintMore
open See Mem Clone Go.Proofs.YtaplpeoikebedaaGreatDoor.Cell Page PageB PageR Disk Dirty Pool2 RecD Rec Wal WalF PoolG PoolS SysD SysM StoreD StoreF StoreH TransT LockT LockU SpaceT WaitT FwdM FwdP FwdC FwdE FwdT FwdB EndT FwdL BackD BackL BackA BackM BackW BackV BackU
attribute [local go_sem] max2_imax min2_imin max_two min_two
end Go.Proofs.YtaplpeoikebedaaGreatDoor.BackB
namespace Go.Proofs.YtaplpeoikebedaaGreatDoor.LockG
open Go.RowKit YtaplpeoikebedaaGreatDoorW.PrintWords YtaplpeoikebedaaGreatDoorW.PrintLast YtaplpeoikebedaaGreatDoorW.PrintMore
open See Mem Clone Go.Proofs.YtaplpeoikebedaaGreatDoor.Cell Page PageR Disk DiskN Pool1 Pool2 Rw Del Num SortI StoreD TransT LockT LockU LockF
attribute [local go_sem] max2_imax min2_imin max_two min_two
end Go.Proofs.YtaplpeoikebedaaGreatDoor.LockG
namespace Go.Proofs.YtaplpeoikebedaaGreatDoor.FwdQ
open Go.RowKit Go.Maps YtaplpeoikebedaaGreatDoorW.PrintWords YtaplpeoikebedaaGreatDoorW.PrintLast YtaplpeoikebedaaGreatDoorW.PrintMore
open See Mem Page Disk DiskN DiskW RecD Dirty Wal SysD SysM StoreD StoreF StoreH TransT LockT LockU LockF LockG SpaceT WaitT FwdM FwdP FwdC FwdN EndT
attribute [local go_sem] max2_imax min2_imin max_two min_two
end Go.Proofs.YtaplpeoikebedaaGreatDoor.FwdQ
namespace Go.Proofs.YtaplpeoikebedaaGreatDoor.BackQ
open Go.RowKit Go.Maps YtaplpeoikebedaaGreatDoorW.PrintWords YtaplpeoikebedaaGreatDoorW.PrintLast YtaplpeoikebedaaGreatDoorW.PrintMore
open See Mem Clone Go.Proofs.YtaplpeoikebedaaGreatDoor.Cell Page PageB PageR Disk Dirty Pool2 RecD Rec Wal WalF PoolG PoolS SysD SysM StoreD StoreF StoreH TransT LockT LockU SpaceT WaitT FwdM FwdP FwdC FwdE FwdT FwdB EndT FwdL BackD BackL BackA BackM BackW BackV BackU BackB FwdQ StoreG StoreI StoreJ StoreK PageM
attribute [local go_sem] max2_imax min2_imin max_two min_two
end Go.Proofs.YtaplpeoikebedaaGreatDoor.BackQ
namespace Go.Proofs.YtaplpeoikebedaaGreatDoor.FullD
open Go.RowKit See Mem Page PageB PageR PageL Disk DiskW RecD Dirty Wal WalF PoolG PoolS SysD SysM Fresh FlushG Pager StoreD PageM StoreF StoreG StoreH StoreI StoreJ StoreK StoreV StoreW LockT LockU BackD BackL BackA TwiceD
def rng (a b:Nat):List Int:=(List.range (b - a)).map fun j=>((a+j:Nat):Int)
theorem rng_len (a b:Nat):(rng a b).length=b - a:=by unfold rng;simp
theorem rng_mem (a b:Nat)(j:Int):j∈rng a b↔(a:Int)≤j∧j<b:=by
  unfold rng
  rw[List.mem_map]
  constructor
  · rintro⟨x,hx,rfl⟩
    rw[List.mem_range] at hx
    omega
  · rintro⟨h1,h2⟩
    exact⟨j.toNat - a,List.mem_range.2 (by omega),by omega⟩
def own_ (a b:Nat)(j:Int):Option Int:=if (a:Int)≤j∧j<b then some j else none
structure ASt (N m:Nat) (k:Nat) (F:FS):Prop where
  ok : ∃ch,FOk N m ch (fun _=>2) F
  same:F.P=1∧F.sess=3∧F.most=1∧F.of 0=1∧F.of 1=0∧F.of 2=0∧F.S.frames=1
  free:F.free=357 - 2*k
  has_:thas F.ts 1=true
  kok:KOk (fun _=>0) F.ks
  kl:F.ks.length≤k
  kr : ∀x∈F.ks,x.key<k
  val_ : ∀j,vals F j=own_ 0 k j
def ownB (key:Int):Int:=if 200≤key then 2 else 1
def kpB:Int→Int:=updk (fun _=>2) 1 1
structure BSt2 (N m k:Nat) (F:FS):Prop where
  ok : ∃ch,FOk N m ch kpB F∧ch 3=[]∧(ch 2).length=k∧∀j,rewV F.S.l (ch 2) (vals F) j=own_ 0 20 j
  same:F.P=1∧F.sess=3∧F.most=3∧F.of 1=2∧F.of 2=3∧F.S.frames=1
  free:311 - 2*(k:Int)≤F.free
  kok:KOk ownB F.ks
  kl:F.ks.length≤2*k
  held : ∀j:Int,0≤j→j<k→∃x∈F.ks,x.mode=2∧x.key=j
  val_ : ∀j,vals F j=own_ k 20 j
theorem BSt2.has_ {N m k:Nat}{F:FS}(h:BSt2 N m k F):thas F.ts (F.of 1)=true∧thas F.ts (F.of 2)=true:=by
  obtain⟨ch,hok,_⟩:=h.ok
  obtain⟨s1,s2,s3,s4,s5,s6⟩:=h.same
  exact⟨(hok.t.ofs 1 (by rw[s4];decide)).2.2,(hok.t.ofs 2 (by rw[s5];decide)).2.2⟩
end Go.Proofs.YtaplpeoikebedaaGreatDoor.FullD
namespace Go.Proofs.YtaplpeoikebedaaGreatDoor.CkptD
open Go.RowKit See Mem Page PageB PageR PageL Disk DiskW RecD Dirty Dirty2 Wal WalF PoolG PoolS PoolA SortI SysD SysM Fresh FlushG TabL Pager StoreD PageM StoreF StoreG StoreH StoreI StoreJ StoreV StoreW LockT LockU BackD BackL BackA ValD
theorem to_ok {N m m':Nat}{ch:Int→List Int}{kp:Int→Int}{F:FS}{S':PSys}(h:FOk N m ch kp F)(e2:PgOk N F.P S')(e3:PgTo F.P F.S S')(hl:LooseLe S'.d m'):FOk N m' ch kp { F with S:=S' }:=by
  refine h.to e2 e3 ?_ hl ?_
  · have:=e2.good.fuse
    unfold FuseOk
    rw[this]
    omega
  · obtain⟨dn,q1,q2⟩:=e3.log
    have hd:=e2.done
    rw[q1] at hd ⊢
    have ho:=h.g.lok
    exact⟨ho.first,ho.blocks,ho.base,ho.epoch,ho.len,ho.last,hd,ho.recs⟩
theorem flushL_pg {N:Nat}{P:Int} : ∀(ns:List Int) {S:PSys} {m:Nat},PgOk N P S→LooseLe S.d m→∃S',flushL S ns=(S',none)∧PgOk N P S'∧PgTo P S S'∧LooseLe S'.d (m+ns.length)
  | [],S,m,h,hl=>⟨S,rfl,h,PgTo.refl _ _,hl⟩
  | n :: ns,S,m,h,hl=>by
    obtain⟨S1,e1,e2,e3,_⟩:=pg_flush n h
    have h1:=flushS_tight n h hl
    rw[e1] at h1
    obtain⟨S2,q1,q2,q3,q4⟩:=flushL_pg ns e2 h1
    exact⟨S2,by rw[flushL_cons_ok e1];exact q1,q2,e3.trans q3,q4.mono (by simp;omega)⟩
theorem sync_pg {N:Nat}{P:Int}{S:PSys}(h:PgOk N P S):syncE S.d=none∧PgOk N P { S with d:=syncD S.d }∧PgTo P S { S with d:=syncD S.d }∧∀s∈(syncD S.d).l,s.loose=[]:=by
  obtain⟨s1,s2,s3⟩:=h.good.sync
  have hd:(syncD S.d).l=S.d.l.map fastS:=by
    have h1:=h.good.on
    have h2:=h.good.fuse
    unfold syncD
    rw[if_neg (by rw[h1];decide),if_pos (by unfold spendB;rw[h2];decide)]
  refine⟨s1,⟨s2,h.pages,h.frames,h.first,h.size,h.done,h.few,h.once,h.here,h.rise,h.tab,fun k k1 k2 => ?_,fun f hf ht => ?_⟩,⟨fun k k1 k2 => ?_,rfl,⟨S.l.done,rfl,Nat.le_refl _⟩,fun _ h=>h⟩,fun s hs => ?_⟩
  · obtain⟨g,g1,g2⟩:=h.disk k k1 k2
    exact⟨g,(s3 k).trans g1,g2⟩
  · exact (s3 f.n).trans (h.same f hf ht)
  · unfold cur
    simp only[s3 k]
  · rw[hd] at hs
    obtain⟨x,_,rfl⟩:=List.mem_map.1 hs
    rfl
theorem all_ok {N m:Nat}{ch:Int→List Int}{kp:Int→Int}{F:FS}(h:FOk N m ch kp F) :
    ∃S',flushAllS F.S=(S',none)∧FOk N m ch kp { F with S:=S' }∧PgTo F.P F.S S'∧∀s∈S'.d.l,s.loose=[]:=by
  obtain⟨S1,e1,e2,e3,e4⟩:=flushL_pg (sortI (F.S.here.map (·.n))) h.g.pg h.g.loose
  obtain⟨s1,s2,s3,s4⟩:=sync_pg e2
  refine⟨{ S1 with d:=syncD S1.d },by unfold flushAllS;rw[e1];simp only[s1],to_ok h s2 (e3.trans s3) (fun s hs => ?_),e3.trans s3,s4⟩
  rw[s4 s hs]
  exact Nat.zero_le _
end Go.Proofs.YtaplpeoikebedaaGreatDoor.CkptD
namespace Go.Proofs.YtaplpeoikebedaaGreatDoor.MasC
open Go.RowKit YtaplpeoikebedaaGreatDoorW.PrintWords YtaplpeoikebedaaGreatDoorW.PrintLast YtaplpeoikebedaaGreatDoorW.PrintMore
open See Mem Clone Go.Proofs.YtaplpeoikebedaaGreatDoor.Cell Page PageB PageR Disk RecD Rec RecC RecB Fill
attribute [local go_sem] max2_imax min2_imin max_two min_two
structure Mst where
  epoch:Int
  base:Int
  reset:Int
  ckpt:Int
  pages:Int
  blocks:Int
  frames:Int
abbrev mstV (m:Mst):Value:=.agg #[.int .i64 m.epoch,.int .i64 m.base,.int .i64 m.reset,.int .i64 m.ckpt,.int .i64 m.pages,.int .i64 m.blocks,.int .i64 m.frames]
structure MOk (m:Mst):Prop where
  epoch:1≤m.epoch∧m.epoch≤1073741824
  base:0≤m.base∧m.base≤1073741824
  reset:1≤m.reset∧m.reset≤m.epoch
  ckpt:m.ckpt=0∨(m.base+1≤m.ckpt∧m.ckpt≤1073741824)
  pages:1≤m.pages∧m.pages≤32
  blocks:1≤m.blocks∧m.blocks≤64
  frames:1≤m.frames∧m.frames≤8
theorem min_in (n lo hi:Int)(h1:lo≤n)(h2:n≤hi)(w:World) :
    Calls Tryz.prog 203 #[.int .i64 n,.int .i64 lo,.int .i64 hi] w fun e w'=>e = .returned (.bool true)∧w=w':=by
  have q1:decide (n≥lo)=true:=decide_eq_true h1
  have q2:decide (n≤hi)=true:=decide_eq_true h2
  clear h1 h2
  go_enter Tryz.func203,Tryz.ntmps203
  go_wp2
  go_ret
  exact⟨by simp,rfl⟩
theorem mcheck_calls (m:Mst)(hm:MOk m)(w:World) :
    Calls Tryz.prog 156 #[mstV m] w fun e w'=>e = .returned .nilIface∧Below w.heap.size w w':=by
  obtain⟨⟨a1,a2⟩,⟨b1,b2⟩,⟨c1,c2⟩,hc,⟨d1,d2⟩,⟨e1,e2⟩,⟨f1,f2⟩⟩:=hm
  obtain⟨ep,ba,re,ck,pg,bl,fr⟩:=m
  simp only at a1 a2 b1 b2 c1 c2 hc d1 d2 e1 e2 f1 f2
  have hw:IntKind.i64.wrap (ba+1)=ba+1:=by rw[IntKind.wrap_i64];omega
  rcases hc with rfl | ⟨g1,g2⟩
  · go_enter Tryz.func156,Tryz.ntmps156
    go_wp2_with (refine (min_in _ _ _ (by omega) (by omega) _).mono ?_;rintro e w' ⟨rfl,rfl⟩)
    go_ret
    exact⟨rfl,below_alloc (Below.refl _ _) _⟩
  · have hne : ¬ck=0:=by omega
    go_enter Tryz.func156,Tryz.ntmps156
    go_wp2_with (refine (min_in _ _ _ (by omega) (by omega) _).mono ?_;rintro e w' ⟨rfl,rfl⟩)
    go_ret
    exact⟨rfl,below_alloc (Below.refl _ _) _⟩
def mstL (m:Mst):List Int:=[m.epoch,m.base,m.reset,m.ckpt,m.pages,m.blocks,m.frames]
def mstN (m:Mst):Nat→List Int
  | 0=>fillL [80,72,88,77] 256
  | i+1=>putL (mstN m i) (4+4*i) 4 (IntKind.u64.wrap ((mstL m).getD i 0))
def mstBytes (m:Mst):List Int:=mstN m 7
theorem mstN_len (m:Mst) : ∀i,i≤7→(mstN m i).length=256
  | 0,_=>by
    show (fillL [80,72,88,77] 256).length=256
    unfold fillL
    rw[List.length_append,List.length_replicate]
    rfl
  | i+1,h=>by
    have:=mstN_len m i (by omega)
    unfold mstN
    rw[putL_length _ _ _ _ (by omega)]
    exact this
theorem mstN_isB (m:Mst) : ∀i,IsB (mstN m i)
  | 0=>by
    unfold mstN fillL
    refine IsB.append (fun x hx => ?_) (fun x hx => ?_)
    · simp only[List.mem_cons,List.not_mem_nil,or_false] at hx
      rcases hx with rfl | rfl | rfl | rfl<;>decide
    · rw[List.mem_replicate] at hx
      rw[hx.2];decide
  | i+1=>by
    unfold mstN
    exact putL_isB (mstN_isB m i) _ _ _
theorem mst_sec (m:Mst):SecB (mstBytes m):=⟨mstN_len m 7 (by omega),mstN_isB m 7⟩
end Go.Proofs.YtaplpeoikebedaaGreatDoor.MasC
namespace Go.Proofs.YtaplpeoikebedaaGreatDoor.MasT
open Go.RowKit YtaplpeoikebedaaGreatDoorW.PrintWords YtaplpeoikebedaaGreatDoorW.PrintLast YtaplpeoikebedaaGreatDoorW.PrintMore
open See Mem Clone Go.Proofs.YtaplpeoikebedaaGreatDoor.Cell Page PageB PageR Disk RecD Rec RecC RecB Fill MasC
attribute [local go_sem] max2_imax min2_imin max_two min_two
theorem mst_index (m:Mst){i x:Int}(h0:0≤i)(h7:i<7)(hx:(mstL m).getD i.toNat 0=x)(W:World):(Instr.index 248 (.agg #[.int .i64 m.epoch,.int .i64 m.base,.int .i64 m.reset,.int .i64 m.ckpt,.int .i64 m.pages,.int .i64 m.blocks,.int .i64 m.frames]) (.int .i64 i)).run Tryz.prog W = .ok (.int .i64 x) W:=by
  rw[←hx]
  rcases (show i=0∨i=1∨i=2∨i=3∨i=4∨i=5∨i=6 by omega) with rfl | rfl | rfl | rfl | rfl | rfl | rfl<;>kernel_rfl
theorem mbytes_calls (m:Mst)(hm:MOk m)(w:World) :
    Calls Tryz.prog 105 #[mstV m] w fun e w' => ∃v,e = .returned (.tuple #[v,.nilIface])∧BS w' v (mstBytes m)∧Below w.heap.size w w':=by
  have HC:=Aside0.mk (mcheck_calls m hm)
  obtain⟨mm,hmm⟩ : ∃mm,mm=m:=⟨_,rfl⟩
  have HMM:=Aside0.mk hmm
  clear hm hmm
  obtain⟨ep,ba,re,ck,pg,bl,fr⟩:=m
  have hcv:=fun (w:World) (C:Array Value) (n c:Nat)=>Lib.run_convert_bytes_const (P:=Tryz.prog) w 93 5 C n c Tryz.underlying93 Tryz.underlying5
  go_enter Tryz.func105,Tryz.ntmps105
  go_wp2_with fail
  refine (HC.out _).mono ?_
  rintro e w1 ⟨rfl,hb⟩
  have hc0:w1.cell? ⟨w.heap.size,0,none⟩=some (.int .i64 ep):=(hb.cell (p:=⟨w.heap.size,0,none⟩) (by simp)).trans (by simp)
  have hc1:w1.cell? ⟨w.heap.size,1,none⟩=some (.int .i64 ba):=(hb.cell (p:=⟨w.heap.size,1,none⟩) (by simp)).trans (by simp)
  have hc2:w1.cell? ⟨w.heap.size,2,none⟩=some (.int .i64 re):=(hb.cell (p:=⟨w.heap.size,2,none⟩) (by simp)).trans (by simp)
  have hc3:w1.cell? ⟨w.heap.size,3,none⟩=some (.int .i64 ck):=(hb.cell (p:=⟨w.heap.size,3,none⟩) (by simp)).trans (by simp)
  have hc4:w1.cell? ⟨w.heap.size,4,none⟩=some (.int .i64 pg):=(hb.cell (p:=⟨w.heap.size,4,none⟩) (by simp)).trans (by simp)
  have hc5:w1.cell? ⟨w.heap.size,5,none⟩=some (.int .i64 bl):=(hb.cell (p:=⟨w.heap.size,5,none⟩) (by simp)).trans (by simp)
  have hc6:w1.cell? ⟨w.heap.size,6,none⟩=some (.int .i64 fr):=(hb.cell (p:=⟨w.heap.size,6,none⟩) (by simp)).trans (by simp)
  have hz:w.heap.size<w1.heap.size:=by have:=hb.size;simp at this;omega
  have HB:=Aside0.mk (below_step (below_alloc (Below.refl w.heap.size w) (.cells #[.int .i64 ep,.int .i64 ba,.int .i64 re,.int .i64 ck,.int .i64 pg,.int .i64 bl,.int .i64 fr] 84)) hb)
  clear hb
  go_wp2_with fail
  have HX:=Aside0.mk (show BS (w1.alloc (.cells #[.int .u8 80,.int .u8 72,.int .u8 88,.int .u8 77] 5 (4,5))) (.slice (some ⟨w1.heap.size,0,none⟩) 4 4) [80,72,88,77] from
    ⟨by simp,by simp,.inr ⟨w1.heap.size,0,4,_,_,rfl,heap_alloc_new w1 _,by simp,by decide,by simp,rfl⟩⟩)
  refine (fill_calls _ [80,72,88,77] 256 _ HX.out (by decide) (by decide)).mono ?_
  rintro e w2 ⟨v2,rfl,hv2,hb2⟩
  have HV2:=Aside0.mk hv2
  have hb12:=below_step (below_alloc (Below.refl w1.heap.size w1) (.cells #[.int .u8 80,.int .u8 72,.int .u8 88,.int .u8 77] 5 (4,5))) hb2
  have HB2:=Aside0.mk (HB.out.trans (hb12.mono HB.out.size))
  replace hc0:=(hb12.cell (p:=⟨w.heap.size,0,none⟩) hz).trans hc0
  replace hc1:=(hb12.cell (p:=⟨w.heap.size,1,none⟩) hz).trans hc1
  replace hc2:=(hb12.cell (p:=⟨w.heap.size,2,none⟩) hz).trans hc2
  replace hc3:=(hb12.cell (p:=⟨w.heap.size,3,none⟩) hz).trans hc3
  replace hc4:=(hb12.cell (p:=⟨w.heap.size,4,none⟩) hz).trans hc4
  replace hc5:=(hb12.cell (p:=⟨w.heap.size,5,none⟩) hz).trans hc5
  replace hc6:=(hb12.cell (p:=⟨w.heap.size,6,none⟩) hz).trans hc6
  have hz2:w.heap.size<w2.heap.size:=by have:=hb12.size;omega
  clear hv2 hb2 hb12 hz HX HB hcv
  go_wp2_with fail
  clear hc0 hc1 hc2 hc3 hc4 hc5 hc6 hz2
  go_loopg [5,31] 8 (fun kq v5 v31 w' => ∃(i:Int) (v:Value),v5=v∧v31 = .int .i64 i∧Aside0 (0≤i∧i≤7∧(kq:Int)=8 - i)∧Aside0 (BS w' v (mstN mm i.toNat))∧Aside0 (Below w.heap.size w w'))
  case atStart=>exact⟨0,_,rfl,rfl,⟨by omega,by omega,by omega⟩,⟨HV2.out⟩,HB2⟩
  case round=>
    obtain⟨i,v,rfl,rfl,HI,HV,HB3⟩:=hrel
    have hi0:0≤i:=HI.out.1
    by_cases hlt:i<7
    · obtain⟨x,hx⟩ : ∃x,(mstL mm).getD i.toNat 0=x:=⟨_,rfl⟩
      have hix:=mst_index (x:=x) ⟨ep,ba,re,ck,pg,bl,fr⟩ hi0 hlt (by rw[←HMM.out,hx]) wr
      simp only at hix
      have HSTEP:=Aside0.mk (show mstN mm (i.toNat+1)=putL (mstN mm i.toNat) (4+4*i.toNat) 4 (IntKind.u64.wrap x) from by rw[←hx];rfl)
      have HL:=Aside0.mk (mstN_len mm i.toNat (by omega))
      have hw4:IntKind.i64.wrap (4*i)=4*i:=by rw[IntKind.wrap_i64];omega
      have hw5:IntKind.i64.wrap (4+4*i)=4+4*i:=by rw[IntKind.wrap_i64];omega
      have hw6:IntKind.i64.wrap (i+1)=i+1:=by rw[IntKind.wrap_i64];omega
      obtain⟨y,hy⟩ : ∃y,IntKind.u64.wrap x=y:=⟨_,rfl⟩
      have hy0:0≤y:=by rw[←hy];exact u64_nonneg _
      rw[hy] at HSTEP
      obtain⟨z,hz⟩ : ∃z,4+4*i=z:=⟨_,rfl⟩
      have hz0:0≤z:=by omega
      have hz1:z+4≤256:=by omega
      have HZ:=Aside0.mk (show z.toNat=4+4*i.toNat by omega)
      rw[hz] at hw5
      clear hx
      go_wp2_with fail
      refine (put_calls _ (mstN mm i.toNat) z 4 y hz0 (by omega) (by omega) (by rw[HL.out];omega) hy0 _ HV.out).mono ?_
      rintro e w5 ⟨v5,rfl,hv5,hb5⟩
      have HV5:=Aside0.mk (show BS w5 v5 (mstN mm (i+1).toNat) from by
        rw[show (i+1).toNat=i.toNat+1 by omega,HSTEP.out]
        rw[HZ.out] at hv5
        exact hv5)
      have HB5:=Aside0.mk (below_step HB3.out hb5)
      clear hv5 hb5 hix hy hz
      go_wp2_with fail
      go_roundg (gk - 1)
      case measure=>have:=HI.out;omega
      case rel=>exact⟨i+1,_,rfl,rfl,⟨by omega,by omega,by have:=HI.out;omega⟩,HV5,HB5⟩
    · have hi7:i.toNat=7:=by have:=HI.out;omega
      go_wp2_with fail
      exact bodyPost_ret (v:=.tuple #[u5,.nilIface]) (by simp[results,Tryz.results105,go_sem]) rfl ⟨u5,rfl,by
        have:=HV.out
        rw[hi7] at this
        rw[←HMM.out]
        exact this,HB3.out⟩
end Go.Proofs.YtaplpeoikebedaaGreatDoor.MasT
namespace Go.Proofs.YtaplpeoikebedaaGreatDoor.CkptM
open Go.RowKit Go.Maps YtaplpeoikebedaaGreatDoorW.PrintWords YtaplpeoikebedaaGreatDoorW.PrintLast YtaplpeoikebedaaGreatDoorW.PrintMore
open See Mem Page Disk DiskW RecD Wal Pool2 SysD SysM PoolF PoolE PoolG PoolA StoreD StoreF StoreI StoreJ SpaceT FwdM FwdP BackM BackU MasC MasT CkptD
attribute [local go_sem] max2_imax min2_imin max_two min_two
def ckCells (bp dp:Nat)(m:Mst):Array Value:=#[.pointer (some ⟨bp,0,none⟩),.pointer (some ⟨dp,0,none⟩),.int .i64 m.epoch,.int .i64 m.base,.int .i64 m.reset,.int .i64 m.ckpt,.int .i64 m.pages,.int .i64 m.blocks,.int .i64 m.frames]
structure CkIn (M:Nat→Prop) (w:World) (cp bp bm sp lp pp dp qp mp:Nat) (blocks frames:Int) (B:BSt) (m:Mst) (R:Nat→Prop):Prop where
  box:w.heap[cp]? = some (.cells (ckCells bp dp m) 86 (0,0))
  b:BkM R w bp bm sp lp pp dp qp mp blocks frames B
  r : ∀k,R k→M k∧k≠cp
  low:M cp
def CkM (M:Nat→Prop)(w:World)(cp bp bm sp lp pp dp qp mp:Nat)(blocks frames:Int)(B:BSt)(m:Mst):Prop := ∃R,CkIn M w cp bp bm sp lp pp dp qp mp blocks frames B m R
def CkPost (M:Nat→Prop)(cp bp bm sp lp pp dp qp mp:Nat)(blocks frames:Int)(B:BSt)(m:Mst)(w w':World):Prop:=CkM (Gr M w w') w' cp bp bm sp lp pp dp qp mp blocks frames B m∧Kp M w w'
section
variable {M R:Nat→Prop}{cp bp bm sp lp pp dp qp mp:Nat}{blocks frames:Int}{B B':BSt}{m:Mst}{w w1 w2 w':World}
theorem CkIn.cells (h:CkIn M w cp bp bm sp lp pp dp qp mp blocks frames B m R):w.cell? ⟨cp,0,none⟩=some (.pointer (some ⟨bp,0,none⟩))∧w.cell? ⟨cp,1,none⟩=some (.pointer (some ⟨dp,0,none⟩))∧w.cell? ⟨cp,2,none⟩=some (.int .i64 m.epoch)∧w.cell? ⟨cp,3,none⟩=some (.int .i64 m.base)∧w.cell? ⟨cp,4,none⟩=some (.int .i64 m.reset)∧w.cell? ⟨cp,5,none⟩=some (.int .i64 m.ckpt)∧w.cell? ⟨cp,6,none⟩=some (.int .i64 m.pages)∧w.cell? ⟨cp,7,none⟩=some (.int .i64 m.blocks)∧w.cell? ⟨cp,8,none⟩=some (.int .i64 m.frames):=by
  have hb:=h.box
  refine⟨?_,?_,?_,?_,?_,?_,?_,?_,?_⟩<;>simp[World.cell?,hb,ckCells]
theorem CkIn.below (h:CkIn M w cp bp bm sp lp pp dp qp mp blocks frames B m R)(hb:Below w.heap.size w w'):CkIn M w' cp bp bm sp lp pp dp qp mp blocks frames B m R:=
  ⟨(hb.block _ (heap_lt h.box)).trans h.box,h.b.below hb,h.r,h.low⟩
theorem CkM.below (h:CkM M w cp bp bm sp lp pp dp qp mp blocks frames B m)(hb:Below w.heap.size w w'):CkM M w' cp bp bm sp lp pp dp qp mp blocks frames B m:=by
  obtain⟨R,h⟩:=h
  exact⟨R,h.below hb⟩
theorem CkM.mono {M':Nat→Prop}(h:CkM M w cp bp bm sp lp pp dp qp mp blocks frames B m)(hm : ∀k,M k→M' k):CkM M' w cp bp bm sp lp pp dp qp mp blocks frames B m:=by
  obtain⟨R,h⟩:=h
  exact⟨R,h.box,h.b,fun k hk=>⟨hm k (h.r k hk).1,(h.r k hk).2⟩,hm _ h.low⟩
theorem CkIn.bk (h:CkIn M w cp bp bm sp lp pp dp qp mp blocks frames B m R)(hp:BkPost R bp bm sp lp pp dp qp mp blocks frames B' w w'):CkPost M cp bp bm sp lp pp dp qp mp blocks frames B' m w w':=by
  refine⟨⟨Gr R w w',hp.2.at h.box (fun hr=>(h.r cp hr).2 rfl),hp.1,fun k hk => ?_,.inl h.low⟩,hp.2.wide fun k hk=>(h.r k hk).1⟩
  rcases hk with hk | ⟨x,y⟩
  · exact⟨.inl (h.r k hk).1,(h.r k hk).2⟩
  · exact⟨.inr ⟨x,y⟩,by have:=heap_lt h.box;omega⟩
theorem ck_up {n:Nat}(h:CkPost (fun k=>n≤k) cp bp bm sp lp pp dp qp mp blocks frames B m w1 w2)(hn:n≤w1.heap.size):CkM (fun k=>n≤k) w2 cp bp bm sp lp pp dp qp mp blocks frames B m∧Below n w1 w2:=
  ⟨CkM.mono h.1 fun k hk=>by
    rcases hk with hk | ⟨h1,_⟩
    · exact hk
    · exact Nat.le_trans hn h1,h.2.below (fun k hk=>hk) hn⟩
theorem CkPost.step (h:CkPost M cp bp bm sp lp pp dp qp mp blocks frames B m w w1)(k:Below w1.heap.size w1 w2):CkPost M cp bp bm sp lp pp dp qp mp blocks frames B m w w2:=
  ⟨CkM.mono (CkM.below h.1 k) fun j hj=>Gr.grow k.size hj,h.2.step k⟩
theorem CkIn.sys (h:CkIn M w cp bp bm sp lp pp dp qp mp blocks frames B m R){Rb:Nat→Prop}{sl:Int→Value}(hb:BkIn R w bp bm sp lp pp dp qp mp blocks frames B Rb sl){S':PSys}(h1:Below w.heap.size w w1)(hx:SysM (Gr Rb w1 w2) w2 pp lp dp S')(hf:Frm sTurn Rb w1 w2):CkPost M cp bp bm sp lp pp dp qp mp blocks frames { B with F:={ B.F with S:=S' } } m w w2:=
  h.bk (hb.fw (FwPost.back (FwM.sy (hb.f.below h1) hx hf) h1))
end
section
variable (a:Nat→Addr)(M:Nat→Prop)(cp bp bm sp lp pp dp qp mp:Nat)(blocks frames:Int)(B:BSt)(m:Mst)(N mm:Nat)(f:Int→Option Int)(P:Int)(w:World)
end
theorem master_calls {M:Nat→Prop}{cp bp bm sp lp pp dp qp mp:Nat}{blocks frames:Int}{B:BSt}{m:Mst}{w:World}(h:CkM M w cp bp bm sp lp pp dp qp mp blocks frames B m) :
    Calls Tryz.prog 41 #[.pointer (some ⟨cp,0,none⟩)] w fun e w'=>e = .returned (mstV m)∧Below w.heap.size w w':=by
  obtain⟨R,h⟩:=h
  obtain⟨c0,c1,c2,c3,c4,c5,c6,c7,c8⟩:=h.cells
  have hcl:=heap_lt h.box
  clear h c0 c1
  obtain⟨ep,ba,re,ck,pg,bl,fr⟩:=m
  go_enter Tryz.func41,Tryz.ntmps41
  go_wp2_with fail
  exact bodyPost_ret (v:=mstV ⟨ep,ba,re,ck,pg,bl,fr⟩) (results_cell_row Tryz.results41 _ _ w.heap.size _ _ (0,0) _ rfl (heap_alloc_new w _) Tryz.underlying84 rfl (by kernel_rfl)) rfl ⟨rfl,below_alloc (Below.refl _ _) _⟩
end Go.Proofs.YtaplpeoikebedaaGreatDoor.CkptM
namespace Go.Proofs.YtaplpeoikebedaaGreatDoor.FwdO
open Go.RowKit Go.Maps YtaplpeoikebedaaGreatDoorW.PrintWords YtaplpeoikebedaaGreatDoorW.PrintLast YtaplpeoikebedaaGreatDoorW.PrintMore
open See Mem Page Disk DiskN RecD Wal SysD SysM StoreD StoreF StoreI TransT LockT LockU SpaceT WaitT FwdM FwdP FwdC FwdN
attribute [local go_sem] max2_imax min2_imin max_two min_two
structure NewIn (w:World) (P blocks frames sess room most:Int) (lp pp sp qp mp:Nat) (wx:World):Prop where
  box:wx.heap[sp]? = some (.cells (fwCells P blocks frames sess lp pp (.slice none 0 0) (.slice none 0 0) 0 qp mp) 118 (0,0))
  room:SpM wx qp room 0
  of:OfM wx mp most (fun _=>0)
  b:Below w.heap.size w wx
  s:w.heap.size≤sp∧w.heap.size≤qp∧w.heap.size≤mp
def stO (P blocks frames sess:Int)(lp pp qp mp:Nat):Obj:=.cells (fwCells P blocks frames sess lp pp (.slice none 0 0) (.slice none 0 0) 0 qp mp) 118 (0,0)
def spO (room:Int):Obj:=.cells #[.int .i64 room,.int .i64 0] 193
theorem push_size (w:World)(o:Obj):(w.alloc o).heap.size=w.heap.size+1:=by show (w.heap.push _).size=_;rw[Array.size_push]
section
variable {w wq:World}{P blocks frames sess room most:Int}{lp pp:Nat}
theorem newA (hb:Below w.heap.size w wq)(hm:0≤most):NewIn w P blocks frames sess room most lp pp (wq.heap.size+1+1) (wq.heap.size+1) wq.heap.size (((wq.alloc (.map #[] 0)).alloc (spO room)).alloc (stO P blocks frames sess lp pp (wq.heap.size+1) wq.heap.size)):=by
  have s1:=push_size wq (.map #[] 0)
  have s2:=push_size (wq.alloc (.map #[] 0)) (spO room)
  have hs:=hb.size
  refine⟨?_,?_,?_,below_alloc (below_alloc (below_alloc hb _) _) _,by omega,by omega,by omega⟩
  · have:=heap_alloc_new ((wq.alloc (.map #[] 0)).alloc (spO room)) (stO P blocks frames sess lp pp (wq.heap.size+1) wq.heap.size)
    rw[s2,s1] at this
    exact this
  · have:=heap_alloc_new (wq.alloc (.map #[] 0)) (spO room)
    rw[s1] at this
    exact (Below.heap_alloc _ _ _ (by omega)).trans this
  · exact ((ofm_made wq most hm).below (below_alloc (Below.refl _ _) _)).below (below_alloc (Below.refl _ _) _)
theorem newC (hb:Below w.heap.size w wq)(hm:0≤most):NewIn w P blocks frames sess room most lp pp (wq.heap.size+1+1) wq.heap.size (wq.heap.size+1) (((wq.alloc (spO room)).alloc (.map #[] 0)).alloc (stO P blocks frames sess lp pp wq.heap.size (wq.heap.size+1))):=by
  have s1:=push_size wq (spO room)
  have s2:=push_size (wq.alloc (spO room)) (.map #[] 0)
  have hs:=hb.size
  refine⟨?_,?_,?_,below_alloc (below_alloc (below_alloc hb _) _) _,by omega,by omega,by omega⟩
  · have:=heap_alloc_new ((wq.alloc (spO room)).alloc (.map #[] 0)) (stO P blocks frames sess lp pp wq.heap.size (wq.heap.size+1))
    rw[s2,s1] at this
    exact this
  · have h1:SpM (wq.alloc (spO room)) wq.heap.size room 0:=heap_alloc_new wq (spO room)
    exact (h1.below (below_alloc (Below.refl _ _) _)).below (below_alloc (Below.refl _ _) _)
  · have:=ofm_made (wq.alloc (spO room)) most hm
    rw[s1] at this
    exact this.below (below_alloc (Below.refl _ _) _)
theorem newB {V:World}(hO:OfM V (w.heap.size+1) most (fun _=>0))(hV:Below w.heap.size w V)(hb:Below V.heap.size V wq):NewIn w P blocks frames sess room most lp pp (wq.heap.size+1) wq.heap.size (w.heap.size+1) ((wq.alloc (spO room)).alloc (stO P blocks frames sess lp pp wq.heap.size (w.heap.size+1))):=by
  have s1:=push_size wq (spO room)
  have hs:=hb.size
  have hv:=hV.size
  have hbw:Below w.heap.size w wq:=below_step hV hb
  refine⟨?_,?_,?_,below_alloc (below_alloc hbw _) _,by omega,by omega,by omega⟩
  · have:=heap_alloc_new (wq.alloc (spO room)) (stO P blocks frames sess lp pp wq.heap.size (w.heap.size+1))
    rw[s1] at this
    exact this
  · have h1:SpM (wq.alloc (spO room)) wq.heap.size room 0:=heap_alloc_new wq (spO room)
    exact h1.below (below_alloc (Below.refl _ _) _)
  · exact ((hO.below hb).below (below_alloc (Below.refl _ _) _)).below (below_alloc (Below.refl _ _) _)
theorem new_fin {M:Nat→Prop}{dp sp qp mp:Nat}{S:PSys}{wc:World}(h:SysM M w pp lp dp S)(hm:0≤most)(hn:NewIn w P blocks frames sess room most lp pp sp qp mp wc)(hr:S.l.room=room) :
    FwM (Gr M w (wc.setCell ⟨sp,9,none⟩ (.int .i64 (imax 0 most)))) (wc.setCell ⟨sp,9,none⟩ (.int .i64 (imax 0 most))) sp lp pp dp qp mp blocks frames ⟨S,P,sess,[],[],most,room,0,fun _=>0⟩∧Below w.heap.size w (wc.setCell ⟨sp,9,none⟩ (.int .i64 (imax 0 most))):=by
  have hB:Below w.heap.size w (wc.setCell ⟨sp,9,none⟩ (.int .i64 (imax 0 most))):=hn.b.setCell hn.s.1 _
  have hi:imax 0 most=most:=by unfold imax;split<;>omega
  have hbox:=heap_setCell_same wc sp 9 _ _ (.int .i64 (imax 0 most)) hn.box
  have hq:qp≠sp:=fun e=>by
    have h1:=hn.room
    unfold SpM at h1
    rw[e,hn.box] at h1
    injection h1 with h1;injection h1 with _ h1
    exact absurd h1 (by decide)
  have hmp:mp≠sp:=fun e=>by
    obtain⟨n,D,⟨es,cl,h1,_⟩,_⟩:=hn.of
    rw[e,hn.box] at h1
    cases h1
  have hsz:(wc.setCell ⟨sp,9,none⟩ (.int .i64 (imax 0 most))).heap.size=wc.heap.size:=by simp[World.setCell]
  have hlt : ∀{j:Nat} {o:Obj},wc.heap[j]? = some o→j<(wc.setCell ⟨sp,9,none⟩ (.int .i64 (imax 0 most))).heap.size:=fun h=>by rw[hsz];exact heap_lt h
  refine⟨⟨⟨.slice none 0 0,.slice none 0 0,?_,LR.nil _,fun k hk=>by simp[Value.ownBlock] at hk,TR.nil _,fun k hk=>by simp[Value.ownBlock] at hk⟩,(h.below hB).mono fun k hk=>.inl hk,?_,?_,.inr ⟨hn.s.1,hlt hn.box⟩,.inr ⟨hn.s.2.1,hlt hn.room⟩,.inr ⟨hn.s.2.2,?_⟩⟩,hB⟩
  · rw[hi] at hbox ⊢
    exact hbox
  · exact (Below.heap_setCell _ _ _ _ hq).trans hn.room
  · obtain⟨n,D,⟨es,cl,h1,h2⟩,h3⟩:=hn.of
    exact⟨n,D,⟨es,cl,(Below.heap_setCell _ _ _ _ hmp).trans h1,h2⟩,h3⟩
  · obtain⟨n,D,⟨es,cl,h1,_⟩,_⟩:=hn.of
    exact hlt h1
end
theorem cfg_cells {w:World}{b:Nat}{x0 x1 x2 x3:Value}(h:w.heap[b]? = some (.cells #[x0,x1,x2,x3] 31 (0,0))) :
    w.cell? ⟨b,0,none⟩=some x0∧w.cell? ⟨b,1,none⟩=some x1∧w.cell? ⟨b,2,none⟩=some x2∧w.cell? ⟨b,3,none⟩=some x3:=by
  refine⟨?_,?_,?_,?_⟩<;>simp[World.cell?,h]
theorem new_calls (M:Nat→Prop)(lp pp dp:Nat)(S:PSys)(P blocks frames sess most:Int)(w:World)(h:SysM M w pp lp dp S)(hr:0≤S.l.room∧S.l.room≤1073741824)(hm:0≤most) :
    Calls Tryz.prog 58 #[.agg #[.int .i64 P,.int .i64 blocks,.int .i64 frames,.int .i64 sess],.pointer (some ⟨lp,0,none⟩),.pointer (some ⟨pp,0,none⟩),.int .i64 most] w fun e w'=>
      ∃sp qp mp,e = .returned (.pointer (some ⟨sp,0,none⟩))∧FwM (Gr M w w') w' sp lp pp dp qp mp blocks frames ⟨S,P,sess,[],[],most,S.l.room,0,fun _=>0⟩∧Below w.heap.size w w':=by
  obtain⟨lv,hlg⟩:=h.log
  obtain⟨room,hroom⟩ : ∃r,S.l.room=r:=⟨_,rfl⟩
  have HROOM:=Aside0.mk (fun (W:World) (hb:Below w.heap.size w W)=>by
    have:=room_log M lp dp lv S.l W (hlg.below hb)
    rw[hroom] at this
    exact this)
  have HROOM2:=Aside0.mk (fun (W:World) (hb:Below w.heap.size w W) (o:Obj) (ho:W.heap[w.heap.size]? = some o)=>(HROOM.out W hb).mono (fun e w' hh=>(⟨hh.1,hh.2,(hh.2.block _ (heap_lt ho)).trans ho⟩:e = .returned (.int .i64 room)∧Below W.heap.size W w'∧w'.heap[w.heap.size]? = some o)))
  have HF:=Aside0.mk h
  have HM:=Aside0.mk hm
  rw[hroom] at hr ⊢
  obtain⟨hr0,hr1⟩:=hr
  have HHR:=Aside0.mk hroom
  clear h hlg hroom hm
  have hmm:=@run_makeMap Tryz.prog
  go_enter Tryz.func58,Tryz.ntmps58
  go_upto_region 1 with fail
  go_cut [9] (fun v9 wx => ∃sp qp mp,v9 = .pointer (some ⟨sp,0,none⟩)∧Aside0 (NewIn w P blocks frames sess room most lp pp sp qp mp wx))
  case first=>
    go_region_law (first
      | (go_simp;go_at_call 18;refine (HROOM2.out _ (by repeat (first | exact Below.refl _ _ | apply below_drew1 | apply below_alloc)) (.cells #[.int .i64 P,.int .i64 blocks,.int .i64 frames,.int .i64 sess] 31 (0,0)) (by first | exact heap_alloc_new w _ | exact (Below.heap_alloc _ _ _ (by show _<(w.heap.push _).size;rw[Array.size_push];omega)).trans (heap_alloc_new w _))).mono ?_;rintro e wq ⟨rfl,hq,hcf⟩;obtain⟨c0,c1,c2,c3⟩:=cfg_cells hcf;have hlq:=heap_lt hcf)
      | (go_simp;go_at_call 110;refine (new_space room hr0 hr1 _).mono ?_;rintro e wq ⟨rfl,rfl⟩))
    all_goals
      go_wp2_with fail
      go_meet
      first
        | exact⟨_,_,_,rfl,⟨newA (below_step (by repeat (first | exact Below.refl _ _ | apply below_drew1 | apply below_alloc)) hq) HM.out⟩⟩
        | exact⟨_,_,_,rfl,⟨newC (below_step (by repeat (first | exact Below.refl _ _ | apply below_drew1 | apply below_alloc)) hq) HM.out⟩⟩
        | exact⟨_,_,_,rfl,⟨newB (by have:=ofm_made (w.alloc (.cells #[.int .i64 P,.int .i64 blocks,.int .i64 frames,.int .i64 sess] 31)) most HM.out;rw[push_size] at this;exact this) (by repeat (first | exact Below.refl _ _ | apply below_drew1 | apply below_alloc)) hq⟩⟩
  case rest=>
    obtain⟨sp,qp,mp,rfl,HN⟩:=hcut
    have hf9:wc.frozen? ⟨sp,9,none⟩=false:=by simp[World.frozen?,HN.out.box]
    have hc9:wc.cell? ⟨sp,9,none⟩=some (.int .i64 0):=by simp[World.cell?,HN.out.box,fwCells]
    go_wp2_with fail
    refine (tseen_calls sp 8 0 most _ hc9 hf9).mono ?_
    rintro e w2 ⟨rfl,hw2⟩
    have HW2:=Aside0.mk hw2
    clear hw2 hc9 hf9
    go_wp2_with fail
    go_ret
    obtain⟨h1,h2⟩:=new_fin HF.out HM.out HN.out HHR.out
    rw[←HW2.out] at h1 h2
    exact⟨sp,qp,mp,rfl,h1,h2⟩
end Go.Proofs.YtaplpeoikebedaaGreatDoor.FwdO
