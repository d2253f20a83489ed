/- Joined texts: WZeros, WFoot, WKept, WShare, WN, WFootNe, WAt, WEqStruct, WRepsOne, WInv, WInvWords, WGuard, WNEv, WMore, See. No condition but what each says. -/
import Derived.Test.YtaplpeoikebedaaGreatDoorY1
import Derived.Laws.StructEq
import Derived.Test.YtaplpeoikebedaaGreatDoorProg
import Derived.Below
import Derived.Deep.Draws
import Derived.Deep.AppendLies
import Derived.Maps.AppendAt
import Derived.OwnWalk
import Derived.Laws.BytesArg
import Derived.Laws.MakeOwn
import Derived.Laws.OwnMore
import Derived.Deep.OwnRows
import Derived.Tactics
import Derived.Lib.ConvBytes
import Derived.Laws.Slices
import Derived.WalkKit
import Derived.KernelRfl
import Derived.RowKit3
import Derived.Deep.LoopGhost
import Derived.Deep.QuietTactic
import Derived.BigQuiet
import Derived.WideLaws
import Derived.Deep.DeepCutAuto
import Derived.Deep.CutBlock
import Derived.Deep.RegionHeld3
import Derived.Laws.Rows
import Derived.Lib.AppendStr
import Derived.ArgAppend
import Derived.Laws.IdiomCopy
import Derived.OrdersHeld
import Derived.Laws.BitsLemmas
import Derived.RowKit
import Derived.LaidEql
set_option maxHeartbeats 8000000
set_option maxRecDepth 100000
set_option linter.unusedVariables false
set_option linter.unusedSimpArgs false
-- PRINTED BY print.sh 35421559b90ae4d0a3588c463048766b98c2df88dd9212a6774a882060cdf62d: not written by this session
namespace Go.Proofs.YtaplpeoikebedaaGreatDoorW.PrintWords
open Go.RowKit
section
variable {P:Program}
theorem run_append_zeros (w:World)(base:Nat)(t ti ty e:TypeId)(i:TypeInfo)(z:Value)(size bytes:Nat)(ht:P.underlying t=some (.slice e)){k:IntKind}(hti:P.underlying ti=some (.int k))(hi:P.info? e=some i)(hz:i.zero=some z)
    (hsize:i.size=size) (hby:i.bytes=bytes) (hzs:z.cells.size=size) (hsz:0<size) (hb0:0<bytes)
    (v:Value) (n:Nat) (xs:List Value) (hown:w.ownsRow base e size v n xs) (kx:IntKind) (m:Nat) (h1 : ∀u∈(Builtin.zeroCells z.cells m).toList,u.oneCell'=true)
    (hbytes:(n+m)*bytes≤140737488355328) (hbase:base≤w.heap.size) :
    ∃ v' w', (Builtin.append_ #[t, ti] ty #[v, .int kx m]).run P w = .ok v' w' ∧ w'.ownsRow base e size v' (n + m) (xs ++ (Builtin.zeroCells z.cells m).toList) ∧ w.grownBy w' v.ownBlock ∧
      (v'.ownBlock=v.ownBlock∨v'.ownBlock=some w.heap.size):=by
  subst hsize
  subst hby
  have hle:n+m≤140737488355328:=Nat.le_trans (Nat.le_mul_of_pos_right _ hb0) hbytes
  have h63:n+m≤maxLen:=by simp only[maxLen];omega
  have hw:IntKind.i64.wrap (m:Int)=m:=by rw[IntKind.wrap_i64];omega
  have hw0:IntKind.i64.wrap 0=0:=by rw[IntKind.wrap_i64];rfl
  have hneg : ¬((m:Int)<0):=by omega
  have hmb:m*i.bytes≤140737488355328:=Nat.le_trans (Nat.mul_le_mul_right _ (Nat.le_add_left m n)) hbytes
  have hbig : ¬(281474976710656<(m:Int)*(i.bytes:Int)):=by
    rw[←Int.natCast_mul]
    omega
  have hsn:i.size≠0:=by omega
  obtain⟨news,hnews⟩ : ∃news,news=(Builtin.zeroCells z.cells m).toList:=⟨_,rfl⟩
  rw[←hnews] at h1 ⊢
  have hl:news.length=m*i.size:=by rw[hnews,Array.length_toList,size_zeroCells,hzs]
  have hna:Builtin.zeroCells z.cells m=news.toArray:=by rw[hnews]
  have hlen:(xs++news).length=(n+m)*i.size:=by rw[List.length_append,hown.1,hl,Nat.add_mul]
  have hnil:m=0→news=[]:=fun h=>List.eq_nil_of_length_eq_zero (by rw[hl,h,Nat.zero_mul])
  have grown : ∀(old:Nat),old<n+m→∀(row:Option Nat),
      (w.drew.alloc (.cells (xs.toArray++news.toArray++Builtin.zeroCells z.cells (grownCap w (n+m) old e - (n+m))) e)).ownsRow base e i.size
        (.slice (some ⟨w.heap.size,0,none⟩) (n+m) (grownCap w (n+m) old e)) (n+m) (xs++news) ∧
      w.grownBy (w.drew.alloc (.cells (xs.toArray++news.toArray++Builtin.zeroCells z.cells (grownCap w (n+m) old e - (n+m))) e)) row:=by
    intro old ho row
    have hge:=grownCap_ge w (n+m) old e
    have hcm:grownCap w (n+m) old e≤maxLen:=grownCap_le_maxLen w (n+m) old e h63
    refine⟨⟨hlen,.inr ⟨w.heap.size,_,_,rfl,hbase,heap_alloc_new w.drew _,hge,hcm,?_,?_⟩⟩,⟨rfl,rfl,rfl,by simp,fun k hk _=>heap_alloc_old w.drew _ hk⟩⟩
    · simp only[Array.size_append,List.size_toArray,size_zeroCells,hzs,hown.1,hl,←Nat.add_mul]
      congr 1
      omega
    · simp only[Array.toList_append,List.append_assoc]
      rw[←List.append_assoc,←hlen]
      exact List.take_left
  have runs : ∀(A:Option Addr) (cap:Nat),cap<n+m→(Builtin.firstCells i.size n (.slice A n cap)).run P w.drew = .ok xs.toArray w.drew→(Builtin.append_ #[t,ti] ty #[.slice A n cap,.int kx m]).run P w =
      .ok (.slice (some ⟨w.heap.size,0,none⟩) (n+m) (grownCap w (n+m) cap e)) (w.drew.alloc (.cells (xs.toArray++news.toArray++Builtin.zeroCells z.cells (grownCap w (n+m) cap e - (n+m))) e)):=by
    intro A cap hcap hfo
    have hn : ¬(n+m≤cap):=by omega
    have h63' : ¬(9223372036854775807<((n:Int)+(m:Int))):=by omega
    have hfit:=growslice_fits hcap hbytes
    have h48' : ¬(281474976710656<Builtin.nextslicecap (n+m) cap*i.bytes):=by omega
    by_cases hm:m=0
    · have hnl:=hnil hm
      subst hm
      rw[hnl]
      simp only[Nat.add_zero] at hn h63' h48' ⊢
      have h63'' : ¬(9223372036854775807<(n:Int)):=by omega
      simp[Builtin.append_,run_underlying ht,run_underlying hti,sizeOf,typeInfo,zeroValue,hi,hz,asInt,asIntOf,hw0,hn,h63'',h48',Question.forced,hfo,newRow,grownCap]
    · have hmz : ¬(m*i.size=0):=Nat.mul_ne_zero hm hsn
      simp[Builtin.append_,run_underlying ht,run_underlying hti,sizeOf,typeInfo,zeroValue,hi,hz,asInt,asIntOf,hw,hneg,hbig,hn,h63',h48',Question.forced,hfo,newRow,grownCap,hmz,hna]
      congr 2
      apply Array.ext'
      simp[List.append_assoc]
  rcases hown.2 with ⟨rfl,rfl⟩ | ⟨g,cap,cur,rfl,hbg,hg,hnc,hcm,hcs,htake⟩
  · have hx:xs=[]:=List.eq_nil_of_length_eq_zero (by simpa using hown.1)
    subst hx
    by_cases hm:m=0
    · have hnl:=hnil hm
      subst hm
      rw[hnl]
      refine⟨.slice none 0 0,w,?_,World.ownsRow_nil w base e i.size,⟨rfl,rfl,rfl,Nat.le_refl _,fun _ _ _=>rfl⟩,Or.inl rfl⟩
      simp[Builtin.append_,run_underlying ht,run_underlying hti,sizeOf,typeInfo,hi,asInt,asIntOf,hw0]
    · have hgr:=grown 0 (by omega) (Value.ownBlock (.slice none 0 0))
      exact⟨_,_,runs none 0 (by omega) (by simp[Builtin.firstCells]),hgr.1,hgr.2,Or.inr rfl⟩
  · by_cases hroom:n+m≤cap
    · have hfit:n*i.size+news.length≤cur.size:=by rw[hl,hcs,←Nat.add_mul];exact Nat.mul_le_mul_right _ hroom
      obtain⟨cur',h3,h4,h5⟩:=setCells_row news (n*i.size) w cur hg hfit
      obtain⟨s1,s2,s3,s4⟩:=setCells_same g news (n*i.size) w
      have hst:=run_storeCells_cells (P:=P) g (n*i.size) news 0 w (fun j hj=>by rw[cell_of_row w g _ cur e (0,0) hg];simp;omega) (fun j _=>blk_frozen hg _) h1
      simp only[Nat.add_zero] at hst
      refine⟨.slice (some ⟨g,0,none⟩) (n+m) cap,w.setCells g (n*i.size) news,?_,⟨hlen,.inr ⟨g,cap,cur',rfl,hbg,h3,hroom,hcm,by rw[h4,hcs],?_⟩⟩,⟨s1,s2,s3,by rw[s4];exact Nat.le_refl _,fun k _ hk=>setCells_far news _ k (fun e=>hk (by simp[Value.ownBlock,e]))⟩,Or.inl rfl⟩
      · by_cases hm:m=0
        · have hnl:=hnil hm
          subst hm
          rw[hnl] at hst ⊢
          simp[Builtin.append_,run_underlying ht,run_underlying hti,sizeOf,typeInfo,hi,asInt,asIntOf,hw0,hnc,add_plain,hst]
        · have hmz : ¬(m*i.size=0):=Nat.mul_ne_zero hm hsn
          simp[Builtin.append_,run_underlying ht,run_underlying hti,sizeOf,typeInfo,zeroValue,hi,hz,asInt,asIntOf,hw,hneg,hbig,hroom,hmz,hna,add_plain,hst]
      · rw[h5]
        have h6:cur.toList.take (n*i.size)=xs:=htake
        rw[h6,←hlen]
        exact List.take_left
    · have holds : ∀j u,xs[j]? = some u→w.cell? ((⟨g,0,none⟩:Addr).add j)=some u:=hown.cells (g:=g) rfl
      have hgr:=grown cap (by omega) (Value.ownBlock (.slice (some ⟨g,0,none⟩) n cap))
      exact⟨_,_,runs (some ⟨g,0,none⟩) cap (by omega) (run_firstCells_some (P:=P) w.drew i.size n _ n cap xs hown.1 (by simpa using holds)),hgr.1,hgr.2,Or.inr rfl⟩
end
namespace Kd
section
variable {P:Program}{ops:Array Oper}{rest:List Oper}{o:Oper}{a:Act}{Q:Exit→Act→World→Prop}{Kc:Act→World→Prop}{α:Type}
end
section
variable {α:Type}{d:Kd α}{e:Nat}{w:World}{base:Nat}{ok:Nat→Prop}{v:Value}{xs:List α}
end
section
variable {P:Program}{ops:Array Oper}{rest:List Oper}{o:Oper}{a:Act}{Q:Exit→Act→World→Prop}{Kc:Act→World→Prop}{α:Type}
end
end Kd
end Go.Proofs.YtaplpeoikebedaaGreatDoorW.PrintWords
-- PRINTED BY print.sh 35421559b90ae4d0a3588c463048766b98c2df88dd9212a6774a882060cdf62d: not written by this session
namespace Go.Proofs.YtaplpeoikebedaaGreatDoorW.PrintWords
open Go.RowKit
namespace Kd
structure Heap {α:Type} (d:Kd α):Prop where
  K : ∀{w w1:World} {x:α} {cs:List Value},(∀k,k<w.heap.size→w1.heap[k]? = w.heap[k]?)→d.K w x cs→d.K w1 x cs
theorem cell_heap {w w1:World}(hb : ∀k,k<w.heap.size→w1.heap[k]? = w.heap[k]?){a:Addr}{v:Value}(h:w.cell? a=some v):w1.cell? a=some v:=by
  have:=hb a.block (World.block_lt_of_cell? w a h)
  simpa [World.cell?,this] using h
theorem Heap.C {α:Type}{d:Kd α}(hd:Heap d){w w1:World}{A:Option Addr}{n:Nat}{xs:List α}(hb : ∀k,k<w.heap.size→w1.heap[k]? = w.heap[k]?)(h:d.C w A n xs):d.C w1 A n xs:=
  ⟨h.1,h.2.1,fun hn=>by
    obtain⟨ad,e,hc⟩:=h.2.2 hn
    refine⟨ad,e,fun j p hj => ?_⟩
    obtain⟨c,hs,hr,hcell⟩:=hc j p hj
    exact⟨c,hs,hd.K hb hr,fun i u hu=>cell_heap hb (hcell i u hu)⟩⟩
section
variable {α:Type}{d:Kd α}{e base g n c:Nat}{ok:Nat→Prop}{w w0 W:World}{A:Option Addr}{xs:List α}
end
end Kd
end Go.Proofs.YtaplpeoikebedaaGreatDoorW.PrintWords
-- PRINTED BY print.sh 35421559b90ae4d0a3588c463048766b98c2df88dd9212a6774a882060cdf62d: not written by this session
namespace Go.Proofs.YtaplpeoikebedaaGreatDoorW.PrintWords
open Go.RowKit
def Kept (w W:World)(S:Nat→Prop):Prop:=w.heap.size≤W.heap.size∧∀i,i<w.heap.size→¬S i→W.heap[i]? = w.heap[i]?
section
variable {w W W2:World}{S S2 S':Nat→Prop}
theorem Kept.refl (w:World)(S:Nat→Prop):Kept w w S:=⟨Nat.le_refl _,fun _ _ _=>rfl⟩
theorem Kept.of_below (h:Below w.heap.size w W)(S:Nat→Prop):Kept w W S:=⟨h.size,fun i hi _=>h.block i hi⟩
theorem Kept.mono (h:Kept w W S)(hs : ∀k,S k→S' k):Kept w W S':=⟨h.1,fun i hi hn=>h.2 i hi (fun hk=>hn (hs i hk))⟩
theorem Kept.then_ (h:Kept w W S)(k:Kept W W2 S2)(hs : ∀k,S2 k→S k∨w.heap.size≤k):Kept w W2 S:=
  ⟨Nat.le_trans h.1 k.1,fun i hi hn=>(k.2 i (Nat.lt_of_lt_of_le hi h.1) (fun h2=>(hs i h2).elim hn (fun h3=>by omega))).trans (h.2 i hi hn)⟩
theorem Kept.below (h:Kept w W S)(hb:Below W.heap.size W W2):Kept w W2 S:=h.then_ (Kept.of_below hb (fun _=>False)) (fun _ hk=>hk.elim)
theorem Kept.alloc (h:Kept w W S)(o:Obj):Kept w (W.alloc o) S:=h.below (below_alloc (Below.refl _ _) o)
theorem Kept.drew (h:Kept w W S):Kept w W.drew S:=h
theorem Kept.drewN (h:Kept w W S)(m:Nat):Kept w (W.drewN m) S:=h
end
namespace Kd
section
variable {α:Type}{d:Kd α}{e base n c:Nat}{ok oki S S2:Nat→Prop}{w w0 W W1 W2:World}{v:Value}{A:Option Addr}{xs:List α}{i:Int}{cs:List Value}
end
end Kd
end Go.Proofs.YtaplpeoikebedaaGreatDoorW.PrintWords
-- PRINTED BY print.sh 35421559b90ae4d0a3588c463048766b98c2df88dd9212a6774a882060cdf62d: not written by this session
namespace Go.Proofs.YtaplpeoikebedaaGreatDoorW.PrintWords
open Go.RowKit
def Foot (P:World→Prop)(W:World)(ok:Nat→Prop):Prop := ∀W':World,(∀k,ok k→k<W.heap.size→W'.heap[k]? = W.heap[k]?)→P W'
theorem heap_lt {W W1:World}{k:Nat}(h:W1.heap[k]? = W.heap[k]?)(hlt:k<W.heap.size):k<W1.heap.size:=by
  rw[Array.getElem?_eq_getElem hlt] at h
  exact (Array.getElem?_eq_some_iff.1 h).1
namespace Foot
variable {P Q:World→Prop}{W W1:World}{ok ok':Nat→Prop}
theorem mono (h:Foot P W ok)(hok : ∀k,ok k→ok' k):Foot P W ok':=fun W' hW=>h W' (fun k hk hlt=>hW k (hok k hk) hlt)
theorem imp (h:Foot P W ok)(hi : ∀W',P W'→Q W'):Foot Q W ok:=fun W' hW=>hi W' (h W' hW)
end Foot
namespace Kd
def F {α:Type}(d:Kd α)(W:World)(ok:Nat→Prop)(A:Option Addr)(n:Nat)(xs:List α):Prop:=Foot (fun W=>d.C W A n xs) W ok
def FK {α:Type}(d:Kd α)(W:World)(ok:Nat→Prop)(x:α)(c:List Value):Prop:=Foot (fun W=>d.K W x c) W ok
section
variable {α β:Type}{d:Kd α}{e base n n' cc g N:Nat}{ok ok' okp S:Nat→Prop}{w w0 w1 W W1:World}{A A':Option Addr}{u v v1:Value}{xs:List α}{xs':List β}{d':Kd β}{x:α}{c:List Value}
end
end Kd
end Go.Proofs.YtaplpeoikebedaaGreatDoorW.PrintWords
-- PRINTED BY print.sh 35421559b90ae4d0a3588c463048766b98c2df88dd9212a6774a882060cdf62d: not written by this session
namespace Go.Proofs.YtaplpeoikebedaaGreatDoorW.PrintWords
open Go.RowKit
namespace Kd
section
variable {α:Type}{d:Kd α}{e base n cc g:Nat}{ok ok' okp S:Nat→Prop}{w w1 W W1:World}{A:Option Addr}{u v v1:Value}{xs:List α}{x:α}{c:List Value}
def N {α:Type}(d:Kd α)(e:Nat)(w:World)(base:Nat)(ok:Nat→Prop)(v:Value)(xs:List α):Prop:=
  (∀k,v.ownBlock=some k→ok k)∧∃rows:List (List Value),rows.length=xs.length∧(raw d.sz).R e w base (fun k=>some k=v.ownBlock) v rows∧∀(j:Nat) (x:α) (c:List Value),xs[j]? = some x→rows[j]? = some c→FK d w (fun k=>ok k∧some k≠v.ownBlock) x c
end
end Kd
end Go.Proofs.YtaplpeoikebedaaGreatDoorW.PrintWords
-- PRINTED BY print.sh 35421559b90ae4d0a3588c463048766b98c2df88dd9212a6774a882060cdf62d: not written by this session
namespace Go.Proofs.YtaplpeoikebedaaGreatDoorW.PrintWords
open Go.RowKit
namespace Kd
section
variable {α:Type}{d:Kd α}{W:World}{g n:Nat}{S ok:Nat→Prop}{A:Option Addr}{ad:Addr}{xs:List α}
end
end Kd
end Go.Proofs.YtaplpeoikebedaaGreatDoorW.PrintWords
-- PRINTED BY print.sh 35421559b90ae4d0a3588c463048766b98c2df88dd9212a6774a882060cdf62d: not written by this session
namespace Go.Proofs.YtaplpeoikebedaaGreatDoorW.PrintWords
open Go.RowKit
section
variable {w w' u:World}{m B g:Nat}{o:Obj}{row:Option Nat}{S:Nat→Prop}{a:Addr}{v:Value}
end
namespace Kd
section
variable {α:Type}{d:Kd α}{e base n m:Nat}{ok:Nat→Prop}{w w':World}{v:Value}{A:Option Addr}{xs:List α}
end
end Kd
end Go.Proofs.YtaplpeoikebedaaGreatDoorW.PrintWords
-- PRINTED BY print.sh 35421559b90ae4d0a3588c463048766b98c2df88dd9212a6774a882060cdf62d: not written by this session
namespace Go.Proofs.YtaplpeoikebedaaGreatDoorW.PrintWords
open Go.RowKit
section
variable {P:Program}{d:Nat}{xs ys:Array Value}{f:Field}{fs:List Field}{a b:Value}{r s:Bool}{w:World}
end
end Go.Proofs.YtaplpeoikebedaaGreatDoorW.PrintWords
-- PRINTED BY print.sh 35421559b90ae4d0a3588c463048766b98c2df88dd9212a6774a882060cdf62d: not written by this session
namespace Go.Proofs.YtaplpeoikebedaaGreatDoorW.PrintWords
end Go.Proofs.YtaplpeoikebedaaGreatDoorW.PrintWords
-- PRINTED BY print.sh 35421559b90ae4d0a3588c463048766b98c2df88dd9212a6774a882060cdf62d: not written by this session
namespace Go.Proofs.YtaplpeoikebedaaGreatDoorW.PrintLast
def up (b:Nat→Bool)(i:Nat):Nat→Bool:=fun j=>if j=i then true else b j
section
variable {P:Program}{ops:Array Oper}{Q:Exit→Act→World→Prop}{md:Region.Mode}{T:Bool×List (List Nat×List Nat)}{B:List Nat}{O:List Nat}{b:Nat→Bool}{i j n:Nat}
end
end Go.Proofs.YtaplpeoikebedaaGreatDoorW.PrintLast
-- PRINTED BY print.sh 35421559b90ae4d0a3588c463048766b98c2df88dd9212a6774a882060cdf62d: not written by this session
namespace Go.Proofs.YtaplpeoikebedaaGreatDoorW.PrintWords
open Go.RowKit
end Go.Proofs.YtaplpeoikebedaaGreatDoorW.PrintWords
namespace Go.Proofs.YtaplpeoikebedaaGreatDoorW.PrintLast
section
variable {ops:Array Oper}{a:Act}{o og:Oper}{g:Nat}{t:Tmp}{u:Bool}
end
end Go.Proofs.YtaplpeoikebedaaGreatDoorW.PrintLast
-- PRINTED BY print.sh 35421559b90ae4d0a3588c463048766b98c2df88dd9212a6774a882060cdf62d: not written by this session
namespace Go.Proofs.YtaplpeoikebedaaGreatDoorW.PrintWords
open Go.RowKit
section
variable {P:Program}{ops:Array Oper}{rest:List Oper}{o:Oper}{a:Act}{Q:Exit→Act→World→Prop}{W:World}
end
end Go.Proofs.YtaplpeoikebedaaGreatDoorW.PrintWords
-- PRINTED BY print.sh 35421559b90ae4d0a3588c463048766b98c2df88dd9212a6774a882060cdf62d: not written by this session
namespace Go.Proofs.YtaplpeoikebedaaGreatDoorW.PrintWords
open Go.RowKit
namespace Kd
section
variable {α:Type}{d:Kd α}{e base n cap g:Nat}{ok ok' okp:Nat→Prop}{w w1 W:World}{v v1:Value}{xs ys:List α}
end
section
variable {P:Program}{ops:Array Oper}{rest:List Oper}{o:Oper}{a:Act}{Q:Exit→Act→World→Prop}{Kc:Act→World→Prop}{α:Type}
end
end Kd
end Go.Proofs.YtaplpeoikebedaaGreatDoorW.PrintWords
-- PRINTED BY print.sh 35421559b90ae4d0a3588c463048766b98c2df88dd9212a6774a882060cdf62d: not written by this session
namespace Go.Proofs.YtaplpeoikebedaaGreatDoorW.PrintMore
open Go.RowKit Go.Proofs.YtaplpeoikebedaaGreatDoorW.PrintWords
namespace Kd
open Go.Proofs.YtaplpeoikebedaaGreatDoorW.PrintWords.Kd
end Kd
namespace Kd
open Go.Proofs.YtaplpeoikebedaaGreatDoorW.PrintWords.Kd
section
variable {α:Type}{d:Kd α}{e base g N:Nat}{ok:Nat→Prop}{W w1:World}{u v:Value}{xs:List α}
end
end Kd
theorem max2_int (k k':IntKind)(x y:Int):Builtin.max2 (.int k x) (.int k' y)=pure (.int k (if x<y then y else x)):=by simp only[Builtin.max2,gt_iff_lt]
theorem min2_int (k k':IntKind)(x y:Int):Builtin.min2 (.int k x) (.int k' y)=pure (.int k (if y<x then y else x)):=by simp only[Builtin.min2]
theorem max_two (ats:Array TypeId)(ty:TypeId)(a b:Value):Builtin.max_ ats ty #[a,b]=(Builtin.max2 a b >>= fun s=>pure s):=by simp only[Builtin.max_,List.foldlM_cons,List.foldlM_nil]
theorem min_two (ats:Array TypeId)(ty:TypeId)(a b:Value):Builtin.min_ ats ty #[a,b]=(Builtin.min2 a b >>= fun s=>pure s):=by simp only[Builtin.min_,List.foldlM_cons,List.foldlM_nil]
end Go.Proofs.YtaplpeoikebedaaGreatDoorW.PrintMore
namespace Go.Proofs.YtaplpeoikebedaaGreatDoorW.PrintWords
open Go.RowKit
section
variable {P:Program}{ops:Array Oper}{rest:List Oper}{o:Oper}{a:Act}{Q:Exit→Act→World→Prop}{W:World}
end
namespace Kd
section
variable {α:Type}{d:Kd α}{e base:Nat}{ok:Nat→Prop}{W w1:World}{v:Value}{xs:List α}
end
section
variable {α:Type}{d:Kd α}{e base g n cap:Nat}{ok oki okp:Nat→Prop}{W:World}{xs:List α}{i:Int}{c:List Value}
end
section
variable {α:Type}{d:Kd α}{e base b b' g N:Nat}{ok ok1:Nat→Prop}{W W2 w1:World}{u v:Value}{xs ys:List α}{S:Nat→Prop}
end
end Kd
end Go.Proofs.YtaplpeoikebedaaGreatDoorW.PrintWords
namespace Go.Proofs.YtaplpeoikebedaaGreatDoorW.PrintWords
open Go.RowKit
namespace Kd
def V {α:Type}(d:Kd α)(_e:Nat)(W:World)(_base:Nat)(ok:Nat→Prop)(v:Value)(xs:List α):Prop := ∃A c,v = .slice A xs.length c∧xs.length≤c∧F d W ok A xs.length xs
section
variable {α β:Type}{d:Kd α}{e base base' n m c g N' lo hi:Nat}{ok ok' S:Nat→Prop}{w W w1:World}{A:Option Addr}{ad:Addr}{u v v1:Value}{xs:List α}
end
end Kd
end Go.Proofs.YtaplpeoikebedaaGreatDoorW.PrintWords
namespace Go.Proofs.YtaplpeoikebedaaGreatDoor.See
open Go.RowKit YtaplpeoikebedaaGreatDoorW.PrintWords YtaplpeoikebedaaGreatDoorW.PrintLast YtaplpeoikebedaaGreatDoorW.PrintMore
attribute [local go_sem] max2_int min2_int max_two min_two
def gl (i:Nat):Nat:=[8,6,9,16,14,10,7,15,2,4,13,12,1,0,5,11,3,17].getD i 0
structure SentsK (K:List Nat) (w:World) (a:Nat→Addr):Prop where
  cell : ∀i,i∈K→w.cell? ⟨gl i,0,none⟩=some (.iface 333 (.pointer (some (a i))))
  row : ∀i,i∈K→∃c t,w.heap[(a i).block]? = some (.cells c t (0,0))
  ne : ∀i j,i∈K→j∈K→i≠j→a i≠a j
theorem SentsK.below {K:List Nat}{w w1:World}{a:Nat→Addr}(h:SentsK K w a)(hb:Below w.heap.size w w1):SentsK K w1 a:=by
  refine⟨fun i hi => ?_,fun i hi => ?_,h.ne⟩
  · exact (hb.cell (World.block_lt_of_cell? _ _ (h.cell i hi))).trans (h.cell i hi)
  · obtain⟨c,t,hr⟩:=h.row i hi
    refine⟨c,t,(hb.block _ ?_).trans hr⟩
    rcases Nat.lt_or_ge (a i).block w.heap.size with h' | h'
    · exact h'
    · rw[Array.getElem?_eq_none h'] at hr;cases hr
theorem SentsK.drewN {K:List Nat}{w:World}{a:Nat→Addr}(h:SentsK K w a)(n:Nat):SentsK K (w.drewN n) a:=⟨h.cell,h.row,h.ne⟩
theorem SentsK.sub {K K':List Nat}{w:World}{a:Nat→Addr}(h:SentsK K w a)(hK : ∀i∈K',i∈K):SentsK K' w a:=
  ⟨fun i hi=>h.cell i (hK i hi),fun i hi=>h.row i (hK i hi),fun i j hi hj=>h.ne i j (hK i hi) (hK j hj)⟩
def kn:List Nat:=[0,1,2,6]
def kn8:List Nat:=[0,1,2,6,8]
abbrev Sents (w:World) (a:Nat→Addr):Prop:=SentsK kn w a
structure SentsAll (w:World) (a:Nat→Addr):Prop where
  cell : ∀i,i<18→w.cell? ⟨gl i,0,none⟩=some (.iface 333 (.pointer (some (a i))))
  row : ∀i,i<18→∃c t,w.heap[(a i).block]? = some (.cells c t (0,0))
  ne : ∀i j,i<18→j<18→i≠j→a i≠a j
theorem row_lt {w:World}{b:Nat}{o:Obj}(h:w.heap[b]? = some o):b<w.heap.size:=by
  rcases Nat.lt_or_ge b w.heap.size with h' | h'
  · exact h'
  · rw[Array.getElem?_eq_none h'] at h;cases h
theorem SentsAll.below {w w1:World}{a:Nat→Addr}(h:SentsAll w a)(hb:Below w.heap.size w w1):SentsAll w1 a:=by
  refine⟨fun i hi => ?_,fun i hi => ?_,h.ne⟩
  · exact (hb.cell (p:=⟨gl i,0,none⟩) (World.block_lt_of_cell? _ _ (h.cell i hi))).trans (h.cell i hi)
  · obtain⟨c,t,hr⟩:=h.row i hi
    exact⟨c,t,(hb.block _ (row_lt hr)).trans hr⟩
theorem SentsAll.drewN {w:World}{a:Nat→Addr}(h:SentsAll w a)(n:Nat):SentsAll (w.drewN n) a:=⟨h.cell,h.row,h.ne⟩
theorem SentsAll.k {w:World}{a:Nat→Addr}(h:SentsAll w a)(K:List Nat)(hK : ∀i∈K,i<18):SentsK K w a:=
  ⟨fun i hi=>h.cell i (hK i hi),fun i hi=>h.row i (hK i hi),fun i j hi hj=>h.ne i j (hK i hi) (hK j hj)⟩
theorem SentsK.all {w:World}{a:Nat→Addr}(h:SentsK (List.range 18) w a):SentsAll w a:=
  ⟨fun i hi=>h.cell i (List.mem_range.2 hi),fun i hi=>h.row i (List.mem_range.2 hi),fun i j hi hj=>h.ne i j (List.mem_range.2 hi) (List.mem_range.2 hj)⟩
theorem infoTES:(Tryz.prog.info? 333).map (fun i=>i.comparable)=some true:=by kernel_rfl
theorem infoTES2:(Tryz.prog.info? 353).map (fun i=>i.size)=some 1:=by kernel_rfl
theorem eql_same (a:Addr)(w:World):(binOp .eql 37 (.iface 333 (.pointer (some a))) (.iface 333 (.pointer (some a)))).run Tryz.prog w = .ok (.bool true) w:=by
  obtain⟨i,hi,hc⟩:=Option.map_eq_some_iff.1 infoTES
  obtain⟨j,hj,_⟩:=Option.map_eq_some_iff.1 infoTES2
  exact run_eql_iface_ptr_same w a Tryz.underlying37 Tryz.underlying333 hi hc hj
theorem eql_other {w:World}{a:Nat→Addr}(h:SentsAll w a){i j:Nat}(hi:i<18)(hj:j<18)(hne:i≠j) :
    (binOp .eql 37 (.iface 333 (.pointer (some (a i)))) (.iface 333 (.pointer (some (a j))))).run Tryz.prog w = .ok (.bool false) w:=by
  obtain⟨x,hx,hc⟩:=Option.map_eq_some_iff.1 infoTES
  obtain⟨y,hy,hs⟩:=Option.map_eq_some_iff.1 infoTES2
  obtain⟨ci,ti,ri⟩:=h.row i hi
  obtain⟨cj,tj,rj⟩:=h.row j hj
  exact run_eql_iface_ptr_other w Tryz.underlying37 Tryz.underlying333 hx hc hy (by rw[hs];decide) (h.ne i j hi hj hne) ri rj
theorem alike_same (a:Addr)(w:World) :
    Calls Tryz.prog 211 #[.iface 333 (.pointer (some a)),.iface 333 (.pointer (some a))] w fun e w'=>e = .returned (.bool true)∧Below w.heap.size w w':=by
  have he:=eql_same a w
  go_enter Tryz.func211,Tryz.ntmps211
  go_wp2
  go_ret
  exact⟨rfl,by repeat (first | exact Below.refl _ _ | apply pw_below_drewN | apply below_drew1 | apply below_alloc)⟩
theorem alike_other (a:Nat→Addr)(i j:Nat)(hi:i<18)(hj:j<18)(hne:i≠j)(w:World)(h:SentsAll w a) :
    Calls Tryz.prog 211 #[.iface 333 (.pointer (some (a i))),.iface 333 (.pointer (some (a j)))] w fun e w'=>e = .returned (.bool false)∧Below w.heap.size w w':=by
  have he:=eql_other h hi hj hne
  clear h hi hj hne
  generalize a i=x at he ⊢
  generalize a j=y at he ⊢
  go_enter Tryz.func211,Tryz.ntmps211
  go_wp2
  go_ret
  exact⟨rfl,by repeat (first | exact Below.refl _ _ | apply pw_below_drewN | apply below_drew1 | apply below_alloc)⟩
structure Listed (w:World) (b:Nat) (a:Nat→Addr):Prop where
  cell : ∀i,i<18→w.cell? ⟨b,i,none⟩=some (.iface 333 (.pointer (some (a i))))
theorem Listed.below {w w1:World}{b:Nat}{a:Nat→Addr}(h:Listed w b a)(hb:Below w.heap.size w w1):Listed w1 b a:=
  ⟨fun i hi=>(hb.cell (p:=⟨b,i,none⟩) (World.block_lt_of_cell? _ _ (h.cell i hi))).trans (h.cell i hi)⟩
theorem sentinels_calls (a:Nat→Addr)(w:World)(h:SentsAll w a) :
    Calls Tryz.prog 210 #[] w fun e w' => ∃b,e = .returned (.slice (some ⟨b,0,none⟩) 18 18)∧Listed w' b a∧Below w.heap.size w w':=by
  have c0:w.cell? ⟨8,0,none⟩=some (.iface 333 (.pointer (some (a 0)))):=h.cell 0 (by decide)
  have c1:w.cell? ⟨6,0,none⟩=some (.iface 333 (.pointer (some (a 1)))):=h.cell 1 (by decide)
  have c2:w.cell? ⟨9,0,none⟩=some (.iface 333 (.pointer (some (a 2)))):=h.cell 2 (by decide)
  have c3:w.cell? ⟨16,0,none⟩=some (.iface 333 (.pointer (some (a 3)))):=h.cell 3 (by decide)
  have c4:w.cell? ⟨14,0,none⟩=some (.iface 333 (.pointer (some (a 4)))):=h.cell 4 (by decide)
  have c5:w.cell? ⟨10,0,none⟩=some (.iface 333 (.pointer (some (a 5)))):=h.cell 5 (by decide)
  have c6:w.cell? ⟨7,0,none⟩=some (.iface 333 (.pointer (some (a 6)))):=h.cell 6 (by decide)
  have c7:w.cell? ⟨15,0,none⟩=some (.iface 333 (.pointer (some (a 7)))):=h.cell 7 (by decide)
  have c8:w.cell? ⟨2,0,none⟩=some (.iface 333 (.pointer (some (a 8)))):=h.cell 8 (by decide)
  have c9:w.cell? ⟨4,0,none⟩=some (.iface 333 (.pointer (some (a 9)))):=h.cell 9 (by decide)
  have c10:w.cell? ⟨13,0,none⟩=some (.iface 333 (.pointer (some (a 10)))):=h.cell 10 (by decide)
  have c11:w.cell? ⟨12,0,none⟩=some (.iface 333 (.pointer (some (a 11)))):=h.cell 11 (by decide)
  have c12:w.cell? ⟨1,0,none⟩=some (.iface 333 (.pointer (some (a 12)))):=h.cell 12 (by decide)
  have c13:w.cell? ⟨0,0,none⟩=some (.iface 333 (.pointer (some (a 13)))):=h.cell 13 (by decide)
  have c14:w.cell? ⟨5,0,none⟩=some (.iface 333 (.pointer (some (a 14)))):=h.cell 14 (by decide)
  have c15:w.cell? ⟨11,0,none⟩=some (.iface 333 (.pointer (some (a 15)))):=h.cell 15 (by decide)
  have c16:w.cell? ⟨3,0,none⟩=some (.iface 333 (.pointer (some (a 16)))):=h.cell 16 (by decide)
  have c17:w.cell? ⟨17,0,none⟩=some (.iface 333 (.pointer (some (a 17)))):=h.cell 17 (by decide)
  clear h
  go_enter Tryz.func210,Tryz.ntmps210
  go_wp2
  go_ret
  refine⟨_,rfl,⟨fun i hi => ?_⟩,by repeat (first | exact Below.refl _ _ | apply pw_below_drewN | apply below_drew1 | apply below_alloc)⟩
  rcases (by omega:i=0∨i=1∨i=2∨i=3∨i=4∨i=5∨i=6∨i=7∨i=8∨i=9∨i=10∨i=11∨i=12∨i=13∨i=14∨i=15∨i=16∨i=17) with rfl | rfl | rfl | rfl | rfl | rfl | rfl | rfl | rfl | rfl | rfl | rfl | rfl | rfl | rfl | rfl | rfl | rfl<;>simp[*]
theorem sentinel_calls (a:Nat→Addr)(k:Nat)(hk:k<18)(w:World)(h:SentsAll w a) :
    Calls Tryz.prog 172 #[.iface 333 (.pointer (some (a k)))] w fun e w'=>e = .returned (.int .i64 (101+(k:Int)))∧Below w.heap.size w w':=by
  have HS:=Aside0.mk h
  obtain⟨x,hx⟩ : ∃x,a k=x:=⟨_,rfl⟩
  have HX:=Aside0.mk hx
  rw[hx]
  clear h hx
  go_enter Tryz.func172,Tryz.ntmps172
  go_wp2_with fail
  refine (sentinels_calls a _ HS.out).mono ?_
  rintro e w1 ⟨b,rfl,hl,hB⟩
  have HL:=Aside0.mk hl
  have HB:=Aside0.mk hB
  clear hl hB
  go_wp2_with fail
  go_loopg [4] (k+1) (fun kq v4 w' => ∃(i:Nat),v4 = .int .i64 (i:Int)∧Aside0 (kq+i=k+1∧i≤k)∧Aside0 (Listed w' b a)∧Aside0 (Below w.heap.size w w'))
  case atStart=>exact⟨0,rfl,⟨by omega⟩,HL,HB⟩
  case round=>
    clear HB HL
    obtain⟨i,rfl,HI,HL,HB⟩:=hrel
    have hik:=HI.out
    have h18:(i:Int)<18:=by omega
    have h0:(0:Int)≤(i:Int):=by omega
    clear hik
    have hc:=HL.out.cell i (by omega)
    by_cases e:i=k
    · subst e
      rw[HX.out] at hc
      go_wp2_with fail
      refine (alike_same _ _).mono ?_
      rintro e w2 ⟨rfl,hB⟩
      replace HB:=Aside0.mk (below_step HB.out hB)
      clear hB hc
      go_wp2_with fail
      go_ret
      exact⟨by simp,HB.out⟩
    · obtain⟨y,hy⟩ : ∃y,a i=y:=⟨_,rfl⟩
      have HY:=Aside0.mk hy
      rw[hy] at hc
      clear hy
      have HE:=Aside0.mk e
      clear e
      go_wp2_with fail
      have hal:=alike_other a k i hk (by omega) (fun h=>HE.out h.symm) wr (HS.out.below HB.out)
      rw[HX.out,HY.out] at hal
      refine hal.mono ?_
      clear hal
      rintro e w2 ⟨rfl,hB⟩
      replace HL:=Aside0.mk (HL.out.below hB)
      replace HB:=Aside0.mk (below_step HB.out hB)
      clear hB hc
      go_wp2_with fail
      go_roundg (gk - 1)
      case measure=>have:=HI.out;omega
      case rel=>exact⟨i+1,by simp,⟨by have:=HI.out;have:=HE.out;omega⟩,HL,HB⟩
theorem sentinel_at (a:Nat→Addr)(k:Nat)(hk:k<18)(x:Addr)(hx:a k=x)(w:World)(h:SentsAll w a) :
    Calls Tryz.prog 172 #[.iface 333 (.pointer (some x))] w fun e w'=>e = .returned (.int .i64 (101+(k:Int)))∧Below w.heap.size w w':=by
  subst hx;exact sentinel_calls a k hk w h
theorem as_no (v:Value)(w:World):(Instr.typeAssert (.iface 333 v) 37 165 true).run Tryz.prog w = .ok (.tuple #[.pointer none,.bool false]) w:=by kernel_rfl
theorem as_yes (v:Value)(w:World):(Instr.typeAssert (.iface 165 v) 37 165 true).run Tryz.prog w = .ok (.tuple #[v,.bool true]) w:=by kernel_rfl
attribute [local go_sem] as_no as_yes
abbrev flt (c:Int) (p:Bool) (q:Int):Value:=.agg #[.int .i64 c,.bool p,.int .i64 q]
theorem bare_calls (c:Int)(w:World):Calls Tryz.prog 68 #[.int .i64 c] w fun e w'=>e = .returned (flt c false 0)∧Below w.heap.size w w':=by
  go_enter Tryz.func68,Tryz.ntmps68
  go_wp2
  exact bodyPost_ret (v:=flt c false 0) (by simp[results,Tryz.results68,go_sem]) rfl ⟨rfl,by repeat (first | exact Below.refl _ _ | apply pw_below_drewN | apply below_drew1 | apply below_alloc)⟩
theorem none_calls (w:World):Calls Tryz.prog 171 #[] w fun e w'=>e = .returned (flt 0 false 0)∧Below w.heap.size w w':=by
  go_enter Tryz.func171,Tryz.ntmps171
  go_wp2
  exact bodyPost_ret (v:=flt 0 false 0) (by simp[results,Tryz.results171,go_sem]) rfl ⟨rfl,by repeat (first | exact Below.refl _ _ | apply pw_below_drewN | apply below_drew1 | apply below_alloc)⟩
theorem samefault_calls (c d:Int)(p q:Bool)(m n:Int)(w:World):Calls Tryz.prog 119 #[flt c p m,flt d q n] w fun e w'=>e = .returned (.bool (c == d && p == q && m == n))∧Below w.heap.size w w':=by
  have hcd:(c == d)=true∨(c == d)=false:=by cases (c == d)<;>simp
  have hpq:(p == q)=true∨(p == q)=false:=by cases (p == q)<;>simp
  have hmn:(m == n)=true∨(m == n)=false:=by cases (m == n)<;>simp
  rcases hcd with h1 | h1
  · rcases hpq with h2 | h2
    · rw[h1,h2]
      go_enter Tryz.func119,Tryz.ntmps119
      go_wp2
      go_ret
      exact⟨by simp,by repeat (first | exact Below.refl _ _ | apply pw_below_drewN | apply below_drew1 | apply below_alloc)⟩
    · rw[h1,h2]
      go_enter Tryz.func119,Tryz.ntmps119
      go_wp2
      go_ret
      exact⟨by simp,by repeat (first | exact Below.refl _ _ | apply pw_below_drewN | apply below_drew1 | apply below_alloc)⟩
  · rw[h1]
    go_enter Tryz.func119,Tryz.ntmps119
    go_wp2
    go_ret
    exact⟨by simp,by repeat (first | exact Below.refl _ _ | apply pw_below_drewN | apply below_drew1 | apply below_alloc)⟩
theorem fault_nil (w:World):Calls Tryz.prog 120 #[.nilIface] w fun e w'=>e = .returned (flt 0 false 0)∧Below w.heap.size w w':=by
  go_enter Tryz.func120,Tryz.ntmps120
  go_wp2_with fail
  refine (none_calls _).mono ?_
  rintro e w1 ⟨rfl,hb⟩
  obtain⟨hc,hf⟩:(∀o,w1.cell? ⟨w.heap.size,o,none⟩=(w.alloc (.cells #[.int .i64 0,.bool false,.int .i64 0] 131)).cell? ⟨w.heap.size,o,none⟩)∧(∀o,w1.frozen? ⟨w.heap.size,o,none⟩=(w.alloc (.cells #[.int .i64 0,.bool false,.int .i64 0] 131)).frozen? ⟨w.heap.size,o,none⟩):=
    ⟨fun o=>hb.cell (p:=⟨w.heap.size,o,none⟩) (by simp),fun o=>hb.frozen (p:=⟨w.heap.size,o,none⟩) (by simp)⟩
  have HB:=Aside0.mk (below_step (below_alloc (Below.refl _ _) _) hb)
  clear hb
  go_wp2_with fail
  exact bodyPost_ret (v:=flt 0 false 0) (by simp[results,Tryz.results120,go_sem,hc]) rfl ⟨rfl,((HB.out.setCell (Nat.le_refl _) _).setCell (Nat.le_refl _) _).setCell (Nat.le_refl _) _⟩
theorem fault_sent (a:Nat→Addr)(k:Nat)(hk:k<18)(w:World)(h:SentsAll w a) :
    Calls Tryz.prog 120 #[.iface 333 (.pointer (some (a k)))] w fun e w'=>e = .returned (flt (101+(k:Int)) false 0)∧Below w.heap.size w w':=by
  have HS:=Aside0.mk h
  obtain⟨x,hx⟩ : ∃x,a k=x:=⟨_,rfl⟩
  have HX:=Aside0.mk hx
  rw[hx]
  clear h hx
  go_enter Tryz.func120,Tryz.ntmps120
  go_wp2_with fail
  refine (sentinel_at a k hk x HX.out _ (by exact HS.out.below (below_alloc (Below.refl _ _) _))).mono ?_
  rintro e w1 ⟨rfl,hB⟩
  have HB:=Aside0.mk (below_step (below_alloc (Below.refl _ _) _) hB)
  have hz:=hB.size
  have hc1 : ∀o,w1.cell? ⟨w.heap.size,o,none⟩=(w.alloc (.cells #[.int .i64 0,.bool false,.int .i64 0] 131)).cell? ⟨w.heap.size,o,none⟩:=fun o=>hB.cell (p:=⟨w.heap.size,o,none⟩) (by simp)
  have hf1 : ∀o,w1.frozen? ⟨w.heap.size,o,none⟩=(w.alloc (.cells #[.int .i64 0,.bool false,.int .i64 0] 131)).frozen? ⟨w.heap.size,o,none⟩:=fun o=>hB.frozen (p:=⟨w.heap.size,o,none⟩) (by simp)
  have hlt:w.heap.size<w1.heap.size:=by
    have:=hB.size
    simp at this
    omega
  clear hB hz
  go_wp2_with fail
  refine (bare_calls _ _).mono ?_
  rintro e w2 ⟨rfl,hB⟩
  replace HB:=Aside0.mk (below_step HB.out hB)
  have hc : ∀o,w2.cell? ⟨w.heap.size,o,none⟩=(w.alloc (.cells #[.int .i64 0,.bool false,.int .i64 0] 131)).cell? ⟨w.heap.size,o,none⟩:=fun o=>(hB.cell (p:=⟨w.heap.size,o,none⟩) hlt).trans (hc1 o)
  have hf : ∀o,w2.frozen? ⟨w.heap.size,o,none⟩=(w.alloc (.cells #[.int .i64 0,.bool false,.int .i64 0] 131)).frozen? ⟨w.heap.size,o,none⟩:=fun o=>(hB.frozen (p:=⟨w.heap.size,o,none⟩) hlt).trans (hf1 o)
  clear hB hc1 hf1 hlt
  go_wp2_with fail
  exact bodyPost_ret (v:=flt (101+(k:Int)) false 0) (by simp[results,Tryz.results120,go_sem,hc]) rfl ⟨rfl,((HB.out.setCell (Nat.le_refl _) _).setCell (Nat.le_refl _) _).setCell (Nat.le_refl _) _⟩
def EV (a:Nat→Addr)(v:Value)(code:Int):Prop:=(v = .nilIface∧code=0)∨∃k,k<18∧v = .iface 333 (.pointer (some (a k)))∧code=101+(k:Int)
theorem fault_calls (a:Nat→Addr)(v:Value)(code:Int)(hv:EV a v code)(w:World)(h:SentsAll w a) :
    Calls Tryz.prog 120 #[v] w fun e w'=>e = .returned (flt code false 0)∧Below w.heap.size w w':=by
  rcases hv with ⟨rfl,rfl⟩ | ⟨k,hk,rfl,rfl⟩
  · exact fault_nil w
  · exact fault_sent a k hk w h
theorem same_calls (a:Nat→Addr)(v:Value)(code:Int)(hv:EV a v code)(d:Int)(q:Bool)(n:Int)(w:World)(h:SentsAll w a) :
    Calls Tryz.prog 67 #[v,flt d q n] w fun e w'=>e = .returned (.bool (code == d && false == q && (0:Int) == n))∧Below w.heap.size w w':=by
  have HS:=Aside0.mk h
  have HV:=Aside0.mk hv
  clear h hv
  go_enter Tryz.func67,Tryz.ntmps67
  go_wp2_with fail
  go_region_held3 (fun w'=>w'.cell? ⟨w.heap.size,0,none⟩=some (.int .i64 d)∧w'.cell? ⟨w.heap.size,1,none⟩=some (.bool q)∧w'.cell? ⟨w.heap.size,2,none⟩=some (.int .i64 n))
    (refine⟨?_,?_,?_⟩<;>(first | go_keep | (rw[hk];go_keep) | (rw[hk2];first | go_keep | (rw[hk];go_keep))))
    (first | (go_at_call 120;refine (fault_calls a v code HV.out _ (by exact HS.out.below (by repeat (first | exact Below.refl _ _ | apply below_drew1 | apply below_alloc)))).mono ?_;rintro e w1 ⟨rfl,hb⟩;have hk : ∀o,w1.cell? ⟨w.heap.size,o,none⟩=_:=fun o=>hb.cell (p:=⟨w.heap.size,o,none⟩) (by simp)) | (go_at_call 119;refine (samefault_calls _ _ _ _ _ _ _).mono ?_;rintro e w2 ⟨rfl,hb2⟩;have hk2 : ∀o,w2.cell? ⟨w.heap.size,o,none⟩=_:=fun o=>hb2.cell (p:=⟨w.heap.size,o,none⟩) (by have:=hb.size;simp at this;simp;omega)))
  clear hk hk2
  go_wp2
  go_ret
  exact⟨by simp,below_step (below_step (by repeat (first | exact Below.refl _ _ | apply below_drew1 | apply below_alloc)) hb) hb2⟩
theorem is_calls (a:Nat→Addr)(v:Value)(code:Int)(hv:EV a v code)(c:Int)(w:World)(h:SentsAll w a) :
    Calls Tryz.prog 21 #[v,.int .i64 c] w fun e w'=>e = .returned (.bool (code == c))∧Below w.heap.size w w':=by
  have HS:=Aside0.mk h
  have HV:=Aside0.mk hv
  clear h hv
  go_enter Tryz.func21,Tryz.ntmps21
  go_wp2_with fail
  refine (bare_calls c _).mono ?_
  rintro e w1 ⟨rfl,hB⟩
  have HB:=Aside0.mk hB
  clear hB
  go_wp2_with fail
  refine (same_calls a v code HV.out c false 0 _ (by exact HS.out.below HB.out)).mono ?_
  rintro e w2 ⟨rfl,hB⟩
  replace HB:=Aside0.mk (below_step HB.out hB)
  clear hB
  go_wp2_with fail
  go_ret
  exact⟨by simp,HB.out⟩
end Go.Proofs.YtaplpeoikebedaaGreatDoor.See
