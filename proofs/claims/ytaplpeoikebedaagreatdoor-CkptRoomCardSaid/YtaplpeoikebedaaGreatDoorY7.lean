/- Joined texts: PageL, RecD, Dirty, SysD, Rec. No condition but what each says. -/
import Derived.Test.YtaplpeoikebedaaGreatDoorY5
import Derived.Test.YtaplpeoikebedaaGreatDoorY6
import Derived.Test.YtaplpeoikebedaaGreatDoorY4
set_option maxHeartbeats 8000000
set_option maxRecDepth 100000
set_option linter.unusedVariables false
set_option linter.unusedSimpArgs false
namespace Go.Proofs.YtaplpeoikebedaaGreatDoor.PageL
open Go.RowKit See Mem Clone Go.Proofs.YtaplpeoikebedaaGreatDoor.Cell Page PageB PageR
theorem putL_same (bs:List Int)(a d:Nat)(n:Int)(h:a+d≤bs.length):fld (putL bs a d n) a d=n % 256 ^ d:=by
  unfold fld putL
  have h1:(bs.take a).length=a:=by rw[List.length_take];omega
  rw[List.drop_append_of_le_length (by omega),List.drop_of_length_le (by omega),List.nil_append,List.take_append_of_le_length (by rw[leB_length];omega),List.take_of_length_le (by rw[leB_length];omega),le_leB]
theorem putL_apart (bs:List Int)(a d:Nat)(n:Int)(a' d':Nat)(h:a+d≤bs.length)(hd:a'+d'≤a∨a+d≤a'):fld (putL bs a d n) a' d'=fld bs a' d':=by
  have h1:(bs.take a).length=a:=by rw[List.length_take];omega
  unfold fld putL
  congr 1
  apply List.ext_getElem?
  intro i
  by_cases hi:i<d'
  · rw[List.getElem?_take,if_pos hi,List.getElem?_take,if_pos hi,List.getElem?_drop,List.getElem?_drop]
    rcases hd with hd | hd
    · rw[List.getElem?_append_left (by omega),List.getElem?_take,if_pos (by omega)]
    · rw[List.getElem?_append_right (by omega),h1,List.getElem?_append_right (by rw[leB_length];omega),leB_length,List.getElem?_drop]
      congr 1;omega
  · rw[List.getElem?_take,if_neg hi,List.getElem?_take,if_neg hi]
theorem u64_id {n:Int}(h0:0≤n)(h1:n<18446744073709551616):IntKind.u64.wrap n=n:=wrap64u h0 (by exact h1)
theorem z256:0+4≤(List.replicate 256 (0:Int)).length:=by rw[List.length_replicate];omega
theorem pbN_lsn (lsn:Int)(es:List (Int×Int))(h0:0≤lsn)(h1:lsn≤1073741824) : ∀i,i≤20→fld (pbN lsn es i) 0 4=lsn
  | 0,_=>by
    unfold pbN
    rw[putL_apart _ _ _ _ _ _ (by rw[putL_length _ _ _ _ z256,List.length_replicate];omega) (by omega),putL_same _ _ _ _ z256,u64_id h0 (by omega)]
    exact Int.emod_eq_of_lt h0 (by omega)
  | i+1,h=>by
    have hl:=pbN_len lsn es i (by omega)
    unfold pbN
    split
    · exact pbN_lsn lsn es h0 h1 i (by omega)
    · unfold pbAdd
      rw[putL_apart _ _ _ _ _ _ (by rw[putL_length _ _ _ _ (by omega)];omega) (by omega),putL_apart _ _ _ _ _ _ (by omega) (by omega)]
      exact pbN_lsn lsn es h0 h1 i (by omega)
theorem pbN_cnt (lsn:Int)(es:List (Int×Int))(hn:es.length≤20) : ∀i,i≤20→fld (pbN lsn es i) 4 2=es.length
  | 0,_=>by
    unfold pbN
    rw[putL_same _ _ _ _ (by rw[putL_length _ _ _ _ z256,List.length_replicate];omega),u64_id (by omega) (by omega)]
    exact Int.emod_eq_of_lt (by omega) (by omega)
  | i+1,h=>by
    have hl:=pbN_len lsn es i (by omega)
    unfold pbN
    split
    · exact pbN_cnt lsn es hn i (by omega)
    · unfold pbAdd
      rw[putL_apart _ _ _ _ _ _ (by rw[putL_length _ _ _ _ (by omega)];omega) (by omega),putL_apart _ _ _ _ _ _ (by omega) (by omega)]
      exact pbN_cnt lsn es hn i (by omega)
def is64 (n:Int):Prop := -9223372036854775808≤n∧n≤9223372036854775807
theorem wrap_back {n:Int}(h:is64 n):IntKind.i64.wrap (IntKind.u64.wrap n % 256 ^ 8)=n:=by
  obtain⟨h1,h2⟩:=h
  have e:IntKind.u64.wrap n=n % 18446744073709551616:=by
    simp only[IntKind.wrap,IntKind.bits,IntKind.signed,Bool.false_and]
    rw[if_neg (by simp)];rfl
  rw[e]
  have e2:n % 18446744073709551616 % 256 ^ 8=n % 18446744073709551616:=Int.emod_eq_of_lt (Int.emod_nonneg _ (by decide)) (Int.emod_lt_of_pos _ (by decide))
  rw[e2]
  simp only[IntKind.wrap,IntKind.bits,IntKind.signed]
  by_cases hn:0≤n
  · rw[Int.emod_eq_of_lt hn (by omega)]
    simp
    omega
  · have:n % 18446744073709551616=n+18446744073709551616:=by omega
    rw[this]
    simp
    omega
theorem pbN_key (lsn:Int)(es:List (Int×Int))(hk : ∀e∈es,0≤e.1∧e.1<1048576∧is64 e.2) : ∀i,i≤20→i≤es.length→∀k e,k<i→es[k]? = some e→keyAt (pbN lsn es i) k=e
  | 0,_,_,k,e,h,_=>by omega
  | i+1,h,hn,k,e,hki,he=>by
    have hl:=pbN_len lsn es i (by omega)
    obtain⟨x,hx⟩ : ∃x,es[i]? = some x:=⟨_,List.getElem?_eq_getElem (by omega)⟩
    obtain⟨k0,k1,k2⟩:=hk x (List.mem_of_getElem? hx)
    have hl2:(putL (pbN lsn es i) (16+12*i) 4 (IntKind.u64.wrap x.1)).length=256:=by rw[putL_length _ _ _ _ (by omega),hl]
    rw[pbN,hx]
    simp only[keyAt,pbAdd]
    rcases (show k<i∨k=i by omega) with h1 | h1
    · have:=pbN_key lsn es hk i (by omega) (by omega) k e h1 he
      unfold keyAt at this
      rw[putL_apart _ _ _ _ _ _ (by omega) (by omega),putL_apart _ _ _ _ _ _ (by omega) (by omega),putL_apart _ _ _ _ _ _ (by omega) (by omega),putL_apart _ _ _ _ _ _ (by omega) (by omega)]
      exact this
    · subst h1
      rw[he] at hx
      obtain rfl:=Option.some.inj hx
      rw[putL_apart _ _ _ _ _ _ (by omega) (by omega),putL_same _ _ _ _ (by omega),putL_same _ _ _ _ (by omega),u64_id k0 (by omega),wrap_back k2]
      rw[Int.emod_eq_of_lt k0 (by omega)]
def PageV (lsn:Int)(es:List (Int×Int)):Prop:=pageOk lsn es=true∧∀e∈es,is64 e.2
theorem page_back {lsn:Int}{es:List (Int×Int)}(h:PageV lsn es):readPage (pageBytes lsn es)=some (lsn,es):=by
  obtain⟨h,hv⟩:=h
  obtain⟨h0,h1,h2⟩:=head_facts (headOk_of h)
  have hk : ∀e∈es,0≤e.1∧e.1<1048576∧is64 e.2:=fun e he=>by
    obtain⟨k,hk,hke⟩:=List.getElem_of_mem he
    have:=keyOk_of h hk
    unfold keyOk at this
    rw[List.getElem?_eq_getElem hk,hke] at this
    simp at this
    exact⟨this.1.1,this.1.2,hv e he⟩
  have e1:lsnOf (pageBytes lsn es)=lsn:=pbN_lsn lsn es h0 h1 _ h2
  have e2:cntOf (pageBytes lsn es)=es.length:=by
    unfold cntOf pageBytes
    rw[pbN_cnt lsn es h2 _ h2];omega
  have e3:keysOf (pageBytes lsn es) es.length=es:=by
    apply List.ext_getElem?
    intro k
    unfold keysOf
    rw[List.getElem?_map]
    by_cases hkl:k<es.length
    · obtain⟨x,hx⟩ : ∃x,es[k]? = some x:=⟨_,List.getElem?_eq_getElem hkl⟩
      rw[hx]
      simp[hkl]
      exact pbN_key lsn es hk _ h2 (Nat.le_refl _) k x hkl hx
    · rw[List.getElem?_eq_none (show es.length≤k by omega)]
      simp;omega
  unfold readPage
  rw[e1,e2,e3,h]
  simp
theorem pageBytes_ok (lsn:Int)(es:List (Int×Int))(h:es.length≤20):(pageBytes lsn es).length=256∧IsB (pageBytes lsn es):=⟨pbN_len lsn es _ h,pbN_isB lsn es _⟩
end Go.Proofs.YtaplpeoikebedaaGreatDoor.PageL
namespace Go.Proofs.YtaplpeoikebedaaGreatDoor.RecD
open Go.RowKit See Mem Clone Go.Proofs.YtaplpeoikebedaaGreatDoor.Cell Page PageB PageR Disk DiskN DiskW PageL
structure RecV where
  kind:Int
  txn:Int
  page:Int
  prev:Int
  next:Int
  key:Int
  had:Bool
  has:Bool
  old:Int
  new:Int
def recL (r:RecV):List Value:=[.int .i64 r.kind,.int .i64 r.txn,.int .i64 r.page,.int .i64 r.prev,.int .i64 r.next,.int .i64 r.key,.bool r.had,.bool r.has,.int .i64 r.old,.int .i64 r.new]
def recA (r:RecV):Array Value:=#[.int .i64 r.kind,.int .i64 r.txn,.int .i64 r.page,.int .i64 r.prev,.int .i64 r.next,.int .i64 r.key,.bool r.had,.bool r.has,.int .i64 r.old,.int .i64 r.new]
theorem recL_one (r:RecV) : ∀u∈recL r,u.oneCell'=true:=by
  intro u hu
  simp[recL] at hu
  rcases hu with rfl | rfl | rfl | rfl | rfl | rfl | rfl | rfl | rfl | rfl<;>rfl
def inB (n lo hi:Int):Bool:=decide (lo≤n) && decide (n≤hi)
def prevOk (r:RecV):Bool:=
  if r.kind=1∨r.kind=7∨r.kind=10 then r.prev == 0 else if r.kind=9 then inB r.prev 1 1073741824 else inB r.prev 0 1073741824
def nextOk (r:RecV):Bool:=
  if r.kind=3∨r.kind=8 then inB r.next 0 1073741824 else if r.kind=10 then inB r.next 0 60000 else r.next == 0
def rkeyOk (r:RecV):Bool:=
  if r.kind=2∨r.kind=3 then inB r.key 0 1048575 else if r.kind=8 then inB r.key 0 2 else r.key == 0
def valsOk (r:RecV):Bool:=
  if (r.has=false∧r.new≠0)∨(r.had=false∧r.old≠0) then false
  else if r.kind=2 then r.had || r.has
  else if r.kind=3 then r.had && decide (1≤r.old) && decide (r.old≤1073741824)
  else !r.had && !r.has
def txnMax (r:RecV):Int:=if (1≤r.kind∧r.kind≤6)∨r.kind=8 then 60000 else 0
def pageMax (r:RecV):Int:=if r.kind=2∨r.kind=3∨r.kind=9 then 32 else 0
def recOk (r:RecV):Bool:=
  inB r.kind 1 10 && inB r.txn (min (txnMax r) 1) (txnMax r) && inB r.page (min (pageMax r) 1) (pageMax r) && prevOk r && nextOk r && rkeyOk r && valsOk r
def recE (r:RecV):Option Nat:=if recOk r then none else some 1
def flagsOf (r:RecV):Int:=(if r.had then 1 else 0)+(if r.has then 2 else 0)
def recParts (r:RecV):List (Int×Int×Int):=[(0,1,r.kind),(1,1,flagsOf r),(2,2,r.txn),(4,2,r.page),(8,4,r.prev),(12,4,r.next),(16,4,r.key),(24,8,r.old),(32,8,r.new)]
def recPart (r:RecV)(i:Nat):Int×Int×Int:=(recParts r).getD i (0,1,0)
def recN (r:RecV):Nat→List Int
  | 0=>List.replicate 40 0
  | i+1=>putL (recN r i) (recPart r i).1.toNat (recPart r i).2.1.toNat (IntKind.u64.wrap (recPart r i).2.2)
def recBytes (r:RecV):List Int:=recN r 9
theorem recPart_fits (r:RecV) : ∀i,i<9→0≤(recPart r i).1∧1≤(recPart r i).2.1∧(recPart r i).2.1≤8∧(recPart r i).1+(recPart r i).2.1≤40:=by
  intro i hi
  match i,hi with
  | 0,_=>simp[recPart,recParts]
  | 1,_=>simp[recPart,recParts]
  | 2,_=>simp[recPart,recParts]
  | 3,_=>simp[recPart,recParts]
  | 4,_=>simp[recPart,recParts]
  | 5,_=>simp[recPart,recParts]
  | 6,_=>simp[recPart,recParts]
  | 7,_=>simp[recPart,recParts]
  | 8,_=>simp[recPart,recParts]
theorem recN_len (r:RecV) : ∀i,i≤9→(recN r i).length=40
  | 0,_=>by simp[recN]
  | i+1,h=>by
    have h1:=recN_len r i (by omega)
    have h2:=recPart_fits r i (by omega)
    rw[recN,putL_length _ _ _ _ (by omega),h1]
theorem recN_isB (r:RecV) : ∀i,IsB (recN r i)
  | 0=>IsB.zeros _
  | i+1=>putL_isB (recN_isB r i) _ _ _
theorem recBytes_len (r:RecV):(recBytes r).length=40:=recN_len r 9 (by omega)
theorem recBytes_isB (r:RecV):IsB (recBytes r):=recN_isB r 9
def blockHead (epoch:Int)(n:Nat):List Int:=putL (putL ([80,72,88,66]++List.replicate 12 0) 4 4 (IntKind.u64.wrap epoch)) 8 2 (IntKind.u64.wrap (n:Int))
theorem isB_head:IsB ([80,72,88,66]++List.replicate 12 (0:Int)):=fun x h=>by
  simp at h;omega
theorem blockHead_len (e:Int)(n:Nat):(blockHead e n).length=16:=by
  unfold blockHead
  rw[putL_length _ _ _ _ (by rw[putL_length _ _ _ _ (by simp)];simp),putL_length _ _ _ _ (by simp)];simp
theorem blockHead_isB (e:Int)(n:Nat):IsB (blockHead e n):=putL_isB (putL_isB isB_head _ _ _) _ _ _
def fillL (b:List Int)(n:Nat):List Int:=b++List.replicate (n - b.length) 0
def blockBody (l:List RecV):List Int:=l.flatMap recBytes
theorem blockBody_len (l:List RecV):(blockBody l).length=40*l.length:=by
  induction l with
  | nil=>rfl
  | cons r l ih=>unfold blockBody at ih ⊢;rw[List.flatMap_cons,List.length_append,ih,recBytes_len,List.length_cons];omega
theorem blockBody_isB (l:List RecV):IsB (blockBody l):=fun x h=>by
  obtain⟨r,_,hr⟩:=List.mem_flatMap.1 h
  exact recBytes_isB r x hr
def blockBytes (epoch:Int)(l:List RecV):List Int:=fillL (blockHead epoch l.length++blockBody l) 256
theorem blockBytes_ok (e:Int)(l:List RecV)(h:l.length≤6):SecB (blockBytes e l):=by
  unfold blockBytes fillL SecB
  have:(blockHead e l.length++blockBody l).length=16+40*l.length:=by rw[List.length_append,blockHead_len,blockBody_len]
  refine⟨?_,((blockHead_isB e _).append (blockBody_isB l)).append (IsB.zeros _)⟩
  rw[List.length_append,this,List.length_replicate];omega
def blockOk (epoch:Int)(l:List RecV):Bool:=inB epoch 1 1073741824 && decide (1≤l.length) && decide (l.length≤6)
def blockE (epoch:Int)(l:List RecV):Option Nat:=if blockOk epoch l && l.all recOk then none else some 1
structure Lg where
  first:Int
  blocks:Int
  base:Int
  epoch:Int
  l:List RecV
  done:Nat
def Lg.last (L:Lg):Int:=L.base+L.l.length
def Lg.doneN (L:Lg):Int:=L.base+L.done
def Lg.room (L:Lg):Int:=max (min (L.blocks*6 - L.l.length) (1073741824 - L.last)) 0
structure Lg.Ok (L:Lg):Prop where
  first:0≤L.first∧L.first≤1000
  blocks:0≤L.blocks∧L.blocks≤1000
  base:0≤L.base∧L.base≤1073741824
  epoch:1≤L.epoch∧L.epoch≤1073741824
  len:(L.l.length:Int)≤L.blocks*6
  last:L.base+L.l.length≤1073741824
  done:L.done≤L.l.length
  recs : ∀r∈L.l,recOk r=true
def appendE (L:Lg)(r:RecV):Option Nat:=if recOk r then (if L.room<1 then some 8 else none) else some 1
def appendN (L:Lg)(r:RecV):Int:=if recOk r then (if L.room<1 then 0 else L.last+1) else 0
def appendL (L:Lg)(r:RecV):Lg:=if recOk r then (if L.room<1 then L else { L with l:=L.l++[r] }) else L
def syncE (d:Dsk):Option Nat:=if d.off then some 0 else if spendB d then none else some 0
def fastS (s:Sec):Sec:=⟨s.last,[]⟩
def syncD (d:Dsk):Dsk:=if d.off then d else if spendB d then { spendD d with l:=d.l.map fastS } else spendD d
def flushFrom (L:Lg):Nat→Nat→Dsk→Dsk×Option Nat
  | 0,_,d=>(d,none)
  | f+1,k,d=>
    if k*6<L.l.length then
      let b:=blockBytes L.epoch ((L.l.drop (k*6)).take 6)
      match writeE d (L.first+k) b with
      | none=>flushFrom L f (k+1) (writeD d (L.first+k) b)
      | some e=>(writeD d (L.first+k) b,some e)
    else (d,none)
def lflush (L:Lg)(d:Dsk):Lg×Dsk×Option Nat:=
  if L.done=L.l.length then (L,d,none)
  else match flushFrom L (L.l.length+1) (L.done / 6) d with
    | (d',some e)=>(L,d',some e)
    | (d',none)=>match syncE d' with
      | some e=>(L,syncD d',some e)
      | none=>({ L with done:=L.l.length },syncD d',none)
end Go.Proofs.YtaplpeoikebedaaGreatDoor.RecD
namespace Go.Proofs.YtaplpeoikebedaaGreatDoor.Dirty
open Go.RowKit YtaplpeoikebedaaGreatDoorW.PrintWords YtaplpeoikebedaaGreatDoorW.PrintLast YtaplpeoikebedaaGreatDoorW.PrintMore
open See Mem Clone Go.Proofs.YtaplpeoikebedaaGreatDoor.Cell Page
attribute [local go_sem] max2_imax min2_imin max_two min_two
def cmpI (x y:Int):Int:=if x<y then -1 else if y<x then 1 else 0
theorem compare_calls (x y:Int)(w:World):Calls Tryz.prog 170 #[.int .i64 x,.int .i64 y] w fun e w'=>e = .returned (.int .i64 (cmpI x y))∧w=w':=by
  rcases (show (x<y∧cmpI x y = -1)∨(¬x<y∧y<x∧cmpI x y=1)∨(¬x<y∧¬y<x∧cmpI x y=0) by unfold cmpI;split<;>(try split)<;>omega) with ⟨h,h2⟩ | ⟨h,h2,h3⟩ | ⟨h,h2,h3⟩
  · rw[h2];clear h2
    go_enter Tryz.func170,Tryz.ntmps170
    go_wp2
    go_ret
    simp
  · rw[h3];clear h3
    go_enter Tryz.func170,Tryz.ntmps170
    go_wp2
    go_ret
    simp
  · rw[h3];clear h3
    go_enter Tryz.func170,Tryz.ntmps170
    go_wp2
    go_ret
    simp
theorem clos_find (pg fr n:Int)(w:World) :
    Calls Tryz.prog 220 #[.agg #[.int .i64 pg,.int .i64 fr],.int .i64 n] w fun e w'=>e = .returned (.int .i64 (cmpI pg n))∧Below w.heap.size w w':=by
  go_enter Tryz.func220,Tryz.ntmps220
  go_wp2_with fail
  refine (compare_calls pg n _).mono ?_
  rintro e w' ⟨rfl,rfl⟩
  go_wp2_with fail
  go_ret
  exact⟨by simp,below_alloc (Below.refl _ _) _⟩
def pos:List (Int×Int)→Int→Nat
  | [],_=>0
  | d :: ds,n=>if d.1<n then pos ds n+1 else 0
def has (ds:List (Int×Int))(n:Int):Bool:=match ds[pos ds n]? with | some d=>d.1 == n | none=>false
def Rising (ds:List (Int×Int)):Prop:=ds.Pairwise fun a b=>a.1<b.1
theorem pos_le : ∀(ds:List (Int×Int)) (n:Int),pos ds n≤ds.length
  | [],_=>Nat.le_refl _
  | d :: ds,n=>by
    unfold pos
    split
    · have:=pos_le ds n;simp;omega
    · simp
theorem pos_eq : ∀(ds:List (Int×Int)) (n:Int) (k:Nat),k≤ds.length→(∀j d,j<k→ds[j]? = some d→d.1<n)→(∀d,ds[k]? = some d→¬d.1<n)→pos ds n=k
  | [],n,k,hk,_,_=>by simp at hk;subst hk;rfl
  | d :: ds,n,0,_,_,h2=>by unfold pos;rw[if_neg (h2 d rfl)]
  | d :: ds,n,k+1,hk,h1,h2=>by
    unfold pos
    rw[if_pos (h1 0 d (by omega) rfl),pos_eq ds n k (by simpa using hk) (fun j e hj he=>h1 (j+1) e (by omega) (by simpa using he)) (fun e he=>h2 e (by simpa using he))]
theorem search_calls (v:Value)(ds:List (Int×Int))(n:Int)(w:World)(hp:P2 w 288 v ds)(hr:Rising ds) :
    Calls Tryz.prog 219 #[v,.int .i64 n,.func (.func 220) #[] #[]] w fun e w'=>e = .returned (.tuple #[.int .i64 (pos ds n:Nat),.bool (has ds n)])∧Below w.heap.size w w':=by
  obtain⟨A,cap,rfl,_⟩:=ow_slice hp.1
  obtain⟨l,hl⟩ : ∃l,ds.length=l:=⟨_,rfl⟩
  have HL:=Aside0.mk hl
  have HP:=Aside0.mk hp
  have HR:=Aside0.mk hr
  have hl5:l≤100000:=by rw[←hl];exact hp.2
  rw[hl]
  clear hp hr hl
  go_enter Tryz.func219,Tryz.ntmps219
  go_wp2_with fail
  go_loopg [9,10] (l+1) (fun kq v9 v10 w' => ∃i j:Int,v9 = .int .i64 i∧v10 = .int .i64 j∧Aside0 (0≤i∧i≤j∧j≤l∧(kq:Int)=j - i+1)∧Aside0 (∀(k:Nat) (d:Int×Int),(k:Int)<i→ds[k]? = some d→d.1<n)∧Aside0 (∀(k:Nat) (d:Int×Int),j≤(k:Int)→ds[k]? = some d→¬d.1<n)∧Aside0 (Below w.heap.size w w'))
  case atStart=>exact⟨0,l,rfl,rfl,⟨by omega,by omega,by omega,by omega⟩,⟨fun k d h=>by omega⟩,⟨fun k d h hd=>by have:=(List.getElem?_eq_some_iff.1 hd).1;have:=HL.out;omega⟩,⟨Below.refl _ _⟩⟩
  case round=>
    obtain⟨i,j,rfl,rfl,HI,HA,HZ,HB⟩:=hrel
    have hi0:0≤i:=HI.out.1
    have hj0:j≤100000:=by have:=HI.out;omega
    by_cases hlt:i<j
    · have hij:0≤i+j:=by omega
      have hij2:i+j≤200000:=by omega
      obtain⟨h,hh⟩ : ∃h,(i+j) / 2=h:=⟨_,rfl⟩
      have hh0:0≤h:=by omega
      have hhi:i≤h:=by omega
      have hhj:h<j:=by omega
      have hhl:h<l:=by have:=HI.out;omega
      have hhb:h≤100000:=by omega
      obtain⟨⟨pg,fr⟩,hd⟩ : ∃d,ds[h.toNat]? = some d:=⟨_,List.getElem?_eq_getElem (by have:=HL.out;omega)⟩
      obtain⟨g,rfl⟩ : ∃g,A=some ⟨g,0,none⟩:=by
        rcases HP.out.form with ⟨_,h0⟩ | ⟨g,c,hv,_⟩
        · rw[h0] at hd;simp at hd
        · injection hv with h1;exact⟨g,h1⟩
      have hcl:wr.cell? ⟨g,h.toNat*2,none⟩=some (.int .i64 pg)∧wr.cell? ⟨g,h.toNat*2+1,none⟩=some (.int .i64 fr):=by
        rcases (P2.below HP.out HB.out).form with ⟨_,h0⟩ | ⟨g',c,hv,hc,_⟩
        · rw[h0] at hd;simp at hd
        · injection hv with h1;injection h1 with h1;injection h1 with h1;subst h1;exact hc _ _ hd
      obtain⟨hd0,hd1⟩:=hcl
      have HD:=Aside0.mk hd
      have HHH:=Aside0.mk (And.intro hhi hhj)
      clear hd hhi hhj
      go_wp2_with fail
      refine (clos_find pg fr n _).mono ?_
      rintro e w1 ⟨rfl,hb⟩
      replace HB:=Aside0.mk (below_step HB.out hb)
      clear hb hd0 hd1
      by_cases hc:pg<n
      · have hq:decide (cmpI pg n<0)=true:=by unfold cmpI;rw[if_pos hc];rfl
        have HC:=Aside0.mk hc
        clear hc
        go_wp2_with fail
        go_roundg (gk - (h+1 - i).toNat)
        case measure=>have:=HI.out;have:=HHH.out;omega
        case rel=>
          refine⟨h+1,j,rfl,rfl,⟨by omega,by have:=HHH.out;omega,by have:=HI.out;omega,by have:=HI.out;have:=HHH.out;omega⟩,⟨fun k d hk hd => ?_⟩,HZ,HB⟩
          rcases (show (k:Int)<h∨k=h.toNat by omega) with h1 | h1
          · obtain⟨hk1,hk2⟩:=List.getElem?_eq_some_iff.1 hd
            obtain⟨hg1,hg2⟩:=List.getElem?_eq_some_iff.1 HD.out
            have:=List.pairwise_iff_getElem.1 HR.out k h.toNat hk1 hg1 (by omega)
            rw[hk2,hg2] at this
            have hc:=HC.out
            simp only at this
            omega
          · subst h1
            rw[HD.out] at hd
            injection hd with hd
            subst hd
            exact HC.out
      · have hq:decide (cmpI pg n<0)=false:=by unfold cmpI;rw[if_neg hc];split<;>rfl
        have HC:=Aside0.mk hc
        clear hc
        go_wp2_with fail
        go_roundg (gk - (j - h).toNat)
        case measure=>have:=HI.out;have:=HHH.out;omega
        case rel=>
          refine⟨i,h,rfl,rfl,⟨by omega,by have:=HHH.out;omega,by omega,by have:=HI.out;have:=HHH.out;omega⟩,HA,⟨fun k d hk hd => ?_⟩,HB⟩
          rcases (show h<(k:Int)∨k=h.toNat by omega) with h1 | h1
          · obtain⟨hk1,hk2⟩:=List.getElem?_eq_some_iff.1 hd
            obtain⟨hg1,hg2⟩:=List.getElem?_eq_some_iff.1 HD.out
            have:=List.pairwise_iff_getElem.1 HR.out h.toNat k hg1 hk1 (by omega)
            rw[hk2,hg2] at this
            have hc:=HC.out
            simp only at this
            omega
          · subst h1
            rw[HD.out] at hd
            injection hd with hd
            subst hd
            exact HC.out
    · have HIJ:=Aside0.mk (show i=j by have:=HI.out;omega)
      have HPOS:=Aside0.mk (show ((pos ds n:Nat):Int)=i by
        rw[pos_eq ds n i.toNat (by have:=HI.out;have:=HL.out;omega) (fun k d hk hd=>HA.out k d (by omega) hd) (fun d hd=>HZ.out i.toNat d (by have:=HIJ.out;omega) hd)]
        omega)
      by_cases hil:i<l
      · obtain⟨⟨pg,fr⟩,hd⟩ : ∃d,ds[i.toNat]? = some d:=⟨_,List.getElem?_eq_getElem (by have:=HL.out;omega)⟩
        obtain⟨g,rfl⟩ : ∃g,A=some ⟨g,0,none⟩:=by
          rcases HP.out.form with ⟨_,h0⟩ | ⟨g,c,hv,_⟩
          · rw[h0] at hd;simp at hd
          · injection hv with h1;exact⟨g,h1⟩
        have hcl:wr.cell? ⟨g,i.toNat*2,none⟩=some (.int .i64 pg)∧wr.cell? ⟨g,i.toNat*2+1,none⟩=some (.int .i64 fr):=by
          rcases (P2.below HP.out HB.out).form with ⟨_,h0⟩ | ⟨g',c,hv,hc,_⟩
          · rw[h0] at hd;simp at hd
          · injection hv with h1;injection h1 with h1;injection h1 with h1;subst h1;exact hc _ _ hd
        obtain⟨hd0,hd1⟩:=hcl
        have HHAS:=Aside0.mk (show has ds n=(cmpI pg n == 0) by
          unfold has
          rw[show pos ds n=i.toNat from by have:=HPOS.out;omega,hd]
          have hz:=HZ.out i.toNat _ (by have:=HIJ.out;omega) hd
          simp only at hz
          unfold cmpI
          rw[if_neg hz]
          by_cases h:n<pg
          · rw[if_pos h];simp;omega
          · rw[if_neg h];simp;omega)
        clear hd
        have hlt2:decide (i<(l:Int))=true:=decide_eq_true hil
        go_wp2_with fail
        refine (clos_find pg fr n _).mono ?_
        rintro e w1 ⟨rfl,hb⟩
        replace HB:=Aside0.mk (below_step HB.out hb)
        clear hb hd0 hd1
        go_wp2_with fail
        exact bodyPost_ret (v:=.tuple #[.int .i64 i,.bool (cmpI pg n == 0)]) (by simp[results,Tryz.results219,go_sem]) rfl ⟨by rw[HPOS.out,HHAS.out],HB.out⟩
      · have HHAS:=Aside0.mk (show has ds n=false by
          unfold has
          rw[show pos ds n=i.toNat from by have:=HPOS.out;omega,List.getElem?_eq_none (by have:=HL.out;omega)])
        go_wp2_with fail
        exact bodyPost_ret (v:=.tuple #[.int .i64 i,.bool false]) (by simp[results,Tryz.results219,go_sem]) rfl ⟨by rw[HPOS.out,HHAS.out],HB.out⟩
theorem find_calls (p:Nat)(v:Value)(ds:List (Int×Int))(n:Int)(w:World)(hp:P2 w 288 v ds)(hr:Rising ds)(hc:w.cell? ⟨p,0,none⟩=some v) :
    Calls Tryz.prog 199 #[.pointer (some ⟨p,0,none⟩),.int .i64 n] w fun e w'=>e = .returned (.tuple #[.int .i64 (pos ds n:Nat),.bool (has ds n)])∧Below w.heap.size w w':=by
  have HP:=Aside0.mk hp
  have HR:=Aside0.mk hr
  clear hp hr
  go_enter Tryz.func199,Tryz.ntmps199
  go_wp2_with fail
  refine (search_calls v ds n _ HP.out HR.out).mono ?_
  rintro e w1 ⟨rfl,hb⟩
  have HB:=Aside0.mk hb
  clear hb
  go_wp2_with fail
  exact bodyPost_ret (v:=.tuple #[.int .i64 (pos ds n:Nat),.bool (has ds n)]) (by simp[results,Tryz.results199,go_sem]) rfl ⟨rfl,HB.out⟩
def fromOf (ds:List (Int×Int))(n:Int):Int:=if has ds n then (ds[pos ds n]?.map (·.2)).getD 0 else 0
theorem from_calls (p:Nat)(v:Value)(ds:List (Int×Int))(n:Int)(w:World)(hp:P2 w 288 v ds)(hr:Rising ds)(hc:w.cell? ⟨p,0,none⟩=some v) :
    Calls Tryz.prog 151 #[.pointer (some ⟨p,0,none⟩),.int .i64 n] w fun e w'=>e = .returned (.tuple #[.int .i64 (fromOf ds n),.bool (has ds n)])∧Below w.heap.size w w':=by
  have HP:=Aside0.mk hp
  have HC:=Aside0.mk hc
  have HFIND:=Aside0.mk (find_calls p v ds n w hp hr hc)
  clear hp hr hc
  obtain⟨k,hk⟩ : ∃k:Int,((pos ds n:Nat):Int)=k:=⟨_,rfl⟩
  cases hh:has ds n with
  | false=>
    have HF:=Aside0.mk (show fromOf ds n=0 by unfold fromOf;rw[hh];rfl)
    have HFD:=HFIND.out
    rw[hh,hk] at HFD
    have HFD':=Aside0.mk HFD
    clear HFD hh hk
    go_enter Tryz.func151,Tryz.ntmps151
    go_wp2_with fail
    refine HFD'.out.mono ?_
    rintro e w1 ⟨rfl,hb⟩
    have HB:=Aside0.mk hb
    clear hb
    go_wp2_with fail
    exact bodyPost_ret (v:=.tuple #[.int .i64 0,.bool false]) (by simp[results,Tryz.results151,go_sem]) rfl ⟨by rw[HF.out],HB.out⟩
  | true=>
    obtain⟨⟨pg,fr⟩,hd⟩ : ∃d,ds[pos ds n]? = some d:=by
      unfold has at hh
      cases hq:ds[pos ds n]? with
      | none=>rw[hq] at hh;cases hh
      | some d=>exact⟨d,rfl⟩
    have HF:=Aside0.mk (show fromOf ds n=fr by unfold fromOf;rw[hh,hd];rfl)
    have HFD:=HFIND.out
    rw[hh,hk] at HFD
    have HFD':=Aside0.mk HFD
    have hlt:=(List.getElem?_eq_some_iff.1 hd).1
    have hk0:0≤k:=by omega
    have hkl:k<(ds.length:Int):=by omega
    have hkn:k.toNat=pos ds n:=by omega
    have HD:=Aside0.mk (show ds[k.toNat]? = some (pg,fr) by rw[hkn];exact hd)
    clear HFD hh hk hd hlt hkn
    go_enter Tryz.func151,Tryz.ntmps151
    go_wp2_with fail
    refine HFD'.out.mono ?_
    rintro e w1 ⟨rfl,hb⟩
    have HB:=Aside0.mk hb
    rcases (P2.below HP.out hb).form with ⟨_,h0⟩ | ⟨g,c,hv,hcl,_⟩
    · rw[h0] at hkl;simp at hkl;omega
    · subst hv
      obtain⟨hc0,hc1⟩:=hcl _ _ HD.out
      have hcv:=pw_cell_below hb HC.out
      clear hb hcl
      go_wp2_with fail
      exact bodyPost_ret (v:=.tuple #[.int .i64 fr,.bool true]) (by simp[results,Tryz.results151,go_sem]) rfl ⟨by rw[HF.out],HB.out⟩
end Go.Proofs.YtaplpeoikebedaaGreatDoor.Dirty
namespace Go.Proofs.YtaplpeoikebedaaGreatDoor.SysD
open Go.RowKit See Mem Clone Go.Proofs.YtaplpeoikebedaaGreatDoor.Cell Page PageB PageR Disk DiskN DiskW PageL RecD Dirty
def addT (ds:List (Int×Int))(n f:Int):List (Int×Int):=if has ds n then ds else ds.take (pos ds n)++(n,f) :: ds.drop (pos ds n)
def dropT (ds:List (Int×Int))(n:Int):List (Int×Int):=if has ds n then ds.eraseIdx (pos ds n) else ds
structure Fp where
  n:Int
  lsn:Int
  es:List (Int×Int)
def findP (fs:List Fp)(n:Int):Option Fp:=fs.find? fun f=>decide (f.n=n)
structure PSys where
  d:Dsk
  l:Lg
  t:List (Int×Int)
  frames:Int
  here:List Fp
def flushS (S:PSys)(n:Int):PSys×Option Nat:=
  match findP S.here n with
  | none=>(S,none)
  | some f=>
    if has S.t n=false then (S,none)
    else
      let q:=if S.l.doneN<f.lsn then lflush S.l S.d else (S.l,S.d,none)
      match q.2.2 with
      | some e=>({ S with l:=q.1,d:=q.2.1 },some e)
      | none=>
        match writeE q.2.1 n (pageBytes f.lsn f.es) with
        | some e=>({ S with l:=q.1,d:=writeD q.2.1 n (pageBytes f.lsn f.es) },some e)
        | none=>({ S with l:=q.1,d:=writeD q.2.1 n (pageBytes f.lsn f.es),t:=dropT S.t n },none)
def evictK (S:PSys)(hint:Int):Nat:=(max hint 0).toNat % S.here.length
def evictS (S:PSys)(hint:Int):PSys×Option Nat:=
  match S.here[evictK S hint]? with
  | none=>(S,none)
  | some f=>
    match flushS S f.n with
    | (S',some e)=>(S',some e)
    | (S',none)=>({ S' with here:=S'.here.eraseIdx (evictK S hint) },none)
inductive Flt where
  | fine
  | bare (k:Nat)
  | at (pos:Int) (k:Nat)
def Flt.of:Option Nat→Flt
  | none=>.fine
  | some k=>.bare k
def getS (S:PSys)(n hint:Int):PSys×(Int×List (Int×Int))×Flt:=
  match findP S.here n with
  | some f=>(S,(f.lsn,f.es),.fine)
  | none=>
    if n<1 then (S,(0,[]),.bare 1)
    else
      let q:=if S.frames≤S.here.length then evictS S hint else (S,none)
      match q.2 with
      | some e=>(q.1,(0,[]),.bare e)
      | none=>
        match readE q.1.d n with
        | some e=>(q.1,(0,[]),.bare e)
        | none=>
          match readPage (readV q.1.d n) with
          | none=>(q.1,(0,[]),.at n 6)
          | some g=>({ q.1 with here:=q.1.here++[⟨n,g.1,g.2⟩] },g,.fine)
def setS (S:PSys)(n lsn:Int)(es:List (Int×Int)):PSys×Option Nat:=
  match findP S.here n with
  | none=>(S,some 1)
  | some f=>
    if pageOk lsn es then ({ S with here:=S.here.map fun g=>if g.n=n then ⟨n,lsn,es⟩ else g,t:=addT S.t n lsn },none)
    else (S,some 1)
end Go.Proofs.YtaplpeoikebedaaGreatDoor.SysD
namespace Go.Proofs.YtaplpeoikebedaaGreatDoor.Rec
open Go.RowKit YtaplpeoikebedaaGreatDoorW.PrintWords YtaplpeoikebedaaGreatDoorW.PrintLast YtaplpeoikebedaaGreatDoorW.PrintMore
open See Mem Clone Go.Proofs.YtaplpeoikebedaaGreatDoor.Cell Page PageB PageR Disk RecD
attribute [local go_sem] max2_imax min2_imin max_two min_two
theorem in_calls (n lo hi:Int)(b:Bool)(hb:inB n lo hi=b)(w:World) :
    Calls Tryz.prog 163 #[.int .i64 n,.int .i64 lo,.int .i64 hi] w fun e w'=>e = .returned (.bool b)∧w=w':=by
  subst hb
  by_cases h1:lo≤n
  · have q1:decide (n≥lo)=true:=decide_eq_true h1
    have HR:=Aside0.mk (show inB n lo hi=decide (n≤hi) by unfold inB;rw[decide_eq_true h1];rfl)
    clear h1
    go_enter Tryz.func163,Tryz.ntmps163
    go_wp2
    go_ret
    exact⟨by simp[HR.out],rfl⟩
  · have q1:decide (n≥lo)=false:=decide_eq_false h1
    have HR:=Aside0.mk (show inB n lo hi=false by unfold inB;rw[decide_eq_false h1];rfl)
    clear h1
    go_enter Tryz.func163,Tryz.ntmps163
    go_wp2
    go_ret
    exact⟨by simp[HR.out],rfl⟩
abbrev recV (r:RecV):Value:=.agg #[.int .i64 r.kind,.int .i64 r.txn,.int .i64 r.page,.int .i64 r.prev,.int .i64 r.next,.int .i64 r.key,.bool r.had,.bool r.has,.int .i64 r.old,.int .i64 r.new]
theorem prev_calls (r:RecV)(b:Bool)(hb:prevOk r=b)(w:World) :
    Calls Tryz.prog 164 #[recV r] w fun e w'=>e = .returned (.bool b)∧Below w.heap.size w w':=by
  obtain⟨k,t,pg,pv,nx,ky,hd,hs,ol,nw⟩:=r
  have HBB:=Aside0.mk hb
  clear hb
  rcases (show k=1∨k=7∨k=10∨k=9∨(k≠1∧k≠7∧k≠10∧k≠9) by omega) with h | h | h | h | ⟨h1,h2,h3,h4⟩
  · subst h
    go_enter Tryz.func164,Tryz.ntmps164
    go_wp2
    go_ret
    exact⟨by simp;rw[←HBB.out];simp[prevOk],below_alloc (Below.refl _ _) _⟩
  · subst h
    go_enter Tryz.func164,Tryz.ntmps164
    go_wp2
    go_ret
    exact⟨by simp;rw[←HBB.out];simp[prevOk],below_alloc (Below.refl _ _) _⟩
  · subst h
    go_enter Tryz.func164,Tryz.ntmps164
    go_wp2
    go_ret
    exact⟨by simp;rw[←HBB.out];simp[prevOk],below_alloc (Below.refl _ _) _⟩
  · subst h
    go_enter Tryz.func164,Tryz.ntmps164
    go_wp2_with fail
    refine (in_calls _ _ _ _ rfl _).mono ?_
    rintro e w' ⟨rfl,rfl⟩
    go_wp2_with fail
    go_ret
    exact⟨by simp;rw[←HBB.out];simp[prevOk],below_alloc (Below.refl _ _) _⟩
  · have q1:(k == 1)=false:=by simp[h1]
    have q2:(k == 7)=false:=by simp[h2]
    have q3:(k == 10)=false:=by simp[h3]
    have q4:(k == 9)=false:=by simp[h4]
    have HH:=Aside0.mk (And.intro h1 (And.intro h2 (And.intro h3 h4)))
    clear h1 h2 h3 h4
    go_enter Tryz.func164,Tryz.ntmps164
    go_wp2_with fail
    refine (in_calls _ _ _ _ rfl _).mono ?_
    rintro e w' ⟨rfl,rfl⟩
    go_wp2_with fail
    go_ret
    obtain⟨h1,h2,h3,h4⟩:=HH.out
    exact⟨by simp;rw[←HBB.out];simp[prevOk,h1,h2,h3,h4],below_alloc (Below.refl _ _) _⟩
theorem next_calls (r:RecV)(b:Bool)(hb:nextOk r=b)(w:World) :
    Calls Tryz.prog 165 #[recV r] w fun e w'=>e = .returned (.bool b)∧Below w.heap.size w w':=by
  obtain⟨k,t,pg,pv,nx,ky,hd,hs,ol,nw⟩:=r
  have HBB:=Aside0.mk hb
  clear hb
  rcases (show k=3∨k=8∨k=10∨(k≠3∧k≠8∧k≠10) by omega) with h | h | h | ⟨h1,h2,h3⟩
  · subst h
    go_enter Tryz.func165,Tryz.ntmps165
    go_wp2_with fail
    refine (in_calls _ _ _ _ rfl _).mono ?_
    rintro e w' ⟨rfl,rfl⟩
    go_wp2_with fail
    go_ret
    exact⟨by simp;rw[←HBB.out];simp[nextOk],below_alloc (Below.refl _ _) _⟩
  · subst h
    go_enter Tryz.func165,Tryz.ntmps165
    go_wp2_with fail
    refine (in_calls _ _ _ _ rfl _).mono ?_
    rintro e w' ⟨rfl,rfl⟩
    go_wp2_with fail
    go_ret
    exact⟨by simp;rw[←HBB.out];simp[nextOk],below_alloc (Below.refl _ _) _⟩
  · subst h
    go_enter Tryz.func165,Tryz.ntmps165
    go_wp2_with fail
    refine (in_calls _ _ _ _ rfl _).mono ?_
    rintro e w' ⟨rfl,rfl⟩
    go_wp2_with fail
    go_ret
    exact⟨by simp;rw[←HBB.out];simp[nextOk],below_alloc (Below.refl _ _) _⟩
  · have q1:(k == 3)=false:=by simp[h1]
    have q2:(k == 8)=false:=by simp[h2]
    have q3:(k == 10)=false:=by simp[h3]
    have HH:=Aside0.mk (And.intro h1 (And.intro h2 h3))
    clear h1 h2 h3
    go_enter Tryz.func165,Tryz.ntmps165
    go_wp2_with fail
    go_ret
    obtain⟨h1,h2,h3⟩:=HH.out
    exact⟨by simp;rw[←HBB.out];simp[nextOk,h1,h2,h3],below_alloc (Below.refl _ _) _⟩
theorem key_calls (r:RecV)(b:Bool)(hb:rkeyOk r=b)(w:World) :
    Calls Tryz.prog 166 #[recV r] w fun e w'=>e = .returned (.bool b)∧Below w.heap.size w w':=by
  obtain⟨k,t,pg,pv,nx,ky,hd,hs,ol,nw⟩:=r
  have HBB:=Aside0.mk hb
  clear hb
  rcases (show k=2∨k=3∨k=8∨(k≠2∧k≠3∧k≠8) by omega) with h | h | h | ⟨h1,h2,h3⟩
  · subst h
    go_enter Tryz.func166,Tryz.ntmps166
    go_wp2_with fail
    refine (in_calls _ _ _ _ rfl _).mono ?_
    rintro e w' ⟨rfl,rfl⟩
    go_wp2_with fail
    go_ret
    exact⟨by simp;rw[←HBB.out];simp[rkeyOk],below_alloc (Below.refl _ _) _⟩
  · subst h
    go_enter Tryz.func166,Tryz.ntmps166
    go_wp2_with fail
    refine (in_calls _ _ _ _ rfl _).mono ?_
    rintro e w' ⟨rfl,rfl⟩
    go_wp2_with fail
    go_ret
    exact⟨by simp;rw[←HBB.out];simp[rkeyOk],below_alloc (Below.refl _ _) _⟩
  · subst h
    go_enter Tryz.func166,Tryz.ntmps166
    go_wp2_with fail
    refine (in_calls _ _ _ _ rfl _).mono ?_
    rintro e w' ⟨rfl,rfl⟩
    go_wp2_with fail
    go_ret
    exact⟨by simp;rw[←HBB.out];simp[rkeyOk],below_alloc (Below.refl _ _) _⟩
  · have q1:(k == 2)=false:=by simp[h1]
    have q2:(k == 3)=false:=by simp[h2]
    have q3:(k == 8)=false:=by simp[h3]
    have HH:=Aside0.mk (And.intro h1 (And.intro h2 h3))
    clear h1 h2 h3
    go_enter Tryz.func166,Tryz.ntmps166
    go_wp2_with fail
    go_ret
    obtain⟨h1,h2,h3⟩:=HH.out
    exact⟨by simp;rw[←HBB.out];simp[rkeyOk,h1,h2,h3],below_alloc (Below.refl _ _) _⟩
theorem valsOk_bad {r:RecV}(h:(r.has=false∧r.new≠0)∨(r.had=false∧r.old≠0)):valsOk r=false:=by unfold valsOk;rw[if_pos h]
theorem values_calls (r:RecV)(b:Bool)(hb:valsOk r=b)(w:World) :
    Calls Tryz.prog 167 #[recV r] w fun e w'=>e = .returned (.bool b)∧Below w.heap.size w w':=by
  obtain⟨k,t,pg,pv,nx,ky,hd,hs,ol,nw⟩:=r
  have HBB:=Aside0.mk hb
  clear hb
  rcases (show (hs=false∧nw≠0)∨(hs=true∧hd=false∧ol≠0)∨((hs=false∧nw=0)∧hd=false∧ol≠0)∨((hs=true∨(hs=false∧nw=0))∧(hd=true∨(hd=false∧ol=0))) by
    cases hs<;>cases hd<;>simp<;>omega) with ⟨rfl,h⟩ | ⟨rfl,rfl,h⟩ | ⟨⟨rfl,rfl⟩,rfl,h⟩ | ⟨h1,h2⟩
  · have q1:(nw != 0)=true:=by simp[h]
    have HH:=Aside0.mk h
    clear h
    go_enter Tryz.func167,Tryz.ntmps167
    go_wp2
    go_ret
    exact⟨by simp;rw[←HBB.out,valsOk_bad (.inl ⟨rfl,HH.out⟩)],below_alloc (Below.refl _ _) _⟩
  · have q1:(ol != 0)=true:=by simp[h]
    have HH:=Aside0.mk h
    clear h
    go_enter Tryz.func167,Tryz.ntmps167
    go_wp2
    go_ret
    exact⟨by simp;rw[←HBB.out,valsOk_bad (.inr ⟨rfl,HH.out⟩)],below_alloc (Below.refl _ _) _⟩
  · have q1:(ol != 0)=true:=by simp[h]
    have HH:=Aside0.mk h
    clear h
    go_enter Tryz.func167,Tryz.ntmps167
    go_wp2
    go_ret
    exact⟨by simp;rw[←HBB.out,valsOk_bad (.inr ⟨rfl,HH.out⟩)],below_alloc (Below.refl _ _) _⟩
  · rcases h1 with rfl | ⟨rfl,rfl⟩<;>rcases h2 with rfl | ⟨rfl,rfl⟩
    all_goals
      rcases (show k=2∨k=3∨(k≠2∧k≠3) by omega) with h | h | ⟨h1,h2⟩
      · subst h
        go_enter Tryz.func167,Tryz.ntmps167
        go_wp2
        go_ret
        exact⟨by simp;rw[←HBB.out];simp[valsOk],below_alloc (Below.refl _ _) _⟩
      · subst h
        first
          | (rcases (show ol<1∨1≤ol by omega) with ho | ho
             · have HO:=Aside0.mk ho
               have q3:decide (ol≥1)=false:=decide_eq_false (by omega)
               clear ho
               go_enter Tryz.func167,Tryz.ntmps167
               go_wp2_with fail
               go_ret
               exact⟨by have:=HO.out;simp;rw[←HBB.out];simp[valsOk];try omega,below_alloc (Below.refl _ _) _⟩
             · have HO:=Aside0.mk ho
               have q3:decide (ol≥1)=true:=decide_eq_true (by omega)
               clear ho
               go_enter Tryz.func167,Tryz.ntmps167
               go_wp2_with fail
               go_ret
               exact⟨by have:=HO.out;simp;rw[←HBB.out];simp[valsOk];try omega,below_alloc (Below.refl _ _) _⟩)
          | (go_enter Tryz.func167,Tryz.ntmps167
             go_wp2_with fail
             go_ret
             exact⟨by simp;rw[←HBB.out];simp[valsOk],below_alloc (Below.refl _ _) _⟩)
      · have q3:(k == 2)=false:=by simp[h1]
        have q4:(k == 3)=false:=by simp[h2]
        have HH:=Aside0.mk (And.intro h1 h2)
        clear h1 h2
        go_enter Tryz.func167,Tryz.ntmps167
        go_wp2
        go_ret
        obtain⟨h1,h2⟩:=HH.out
        exact⟨by simp;rw[←HBB.out];simp[valsOk,h1,h2],below_alloc (Below.refl _ _) _⟩
end Go.Proofs.YtaplpeoikebedaaGreatDoor.Rec
