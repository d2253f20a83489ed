/- Joined texts: Dirty, SysD, Rec. No condition but what each says. -/
import Derived.Test.YtaplpeoikebedaaGreatDoorX4
import Derived.Test.YtaplpeoikebedaaGreatDoorX7
set_option maxHeartbeats 8000000
set_option maxRecDepth 100000
set_option linter.unusedVariables false
set_option linter.unusedSimpArgs false
namespace Go.Proofs.YtaplpeoikebedaaGreatDoor.Dirty
open Go.RowKit YtaplpeoikebedaaGreatDoorW.PrintWords YtaplpeoikebedaaGreatDoorW.PrintLast YtaplpeoikebedaaGreatDoorW.PrintMore
open See Mem Clone Go.Proofs.YtaplpeoikebedaaGreatDoor.Cell Page
attribute [local go_sem] max2_imax min2_imin max_two min_two
def cmpI (x y:Int):Int:=if x<y then -1 else if y<x then 1 else 0
theorem compare_calls (x y:Int)(w:World):Calls Tryz.prog 170 #[.int .i64 x,.int .i64 y] w fun e w'=>e = .returned (.int .i64 (cmpI x y))∧w=w':=by
  rcases (show (x<y∧cmpI x y = -1)∨(¬x<y∧y<x∧cmpI x y=1)∨(¬x<y∧¬y<x∧cmpI x y=0) by unfold cmpI;split<;>(try split)<;>omega) with ⟨h,h2⟩ | ⟨h,h2,h3⟩ | ⟨h,h2,h3⟩
  · rw[h2];clear h2
    go_enter Tryz.func170,Tryz.ntmps170
    go_wp2
    go_ret
    simp
  · rw[h3];clear h3
    go_enter Tryz.func170,Tryz.ntmps170
    go_wp2
    go_ret
    simp
  · rw[h3];clear h3
    go_enter Tryz.func170,Tryz.ntmps170
    go_wp2
    go_ret
    simp
theorem clos_find (pg fr n:Int)(w:World) :
    Calls Tryz.prog 220 #[.agg #[.int .i64 pg,.int .i64 fr],.int .i64 n] w fun e w'=>e = .returned (.int .i64 (cmpI pg n))∧Below w.heap.size w w':=by
  go_enter Tryz.func220,Tryz.ntmps220
  go_wp2_with fail
  refine (compare_calls pg n _).mono ?_
  rintro e w' ⟨rfl,rfl⟩
  go_wp2_with fail
  go_ret
  exact⟨by simp,below_alloc (Below.refl _ _) _⟩
def pos:List (Int×Int)→Int→Nat
  | [],_=>0
  | d :: ds,n=>if d.1<n then pos ds n+1 else 0
def has (ds:List (Int×Int))(n:Int):Bool:=match ds[pos ds n]? with | some d=>d.1 == n | none=>false
def Rising (ds:List (Int×Int)):Prop:=ds.Pairwise fun a b=>a.1<b.1
theorem pos_le : ∀(ds:List (Int×Int)) (n:Int),pos ds n≤ds.length
  | [],_=>Nat.le_refl _
  | d :: ds,n=>by
    unfold pos
    split
    · have:=pos_le ds n;simp;omega
    · simp
theorem pos_eq : ∀(ds:List (Int×Int)) (n:Int) (k:Nat),k≤ds.length→(∀j d,j<k→ds[j]? = some d→d.1<n)→(∀d,ds[k]? = some d→¬d.1<n)→pos ds n=k
  | [],n,k,hk,_,_=>by simp at hk;subst hk;rfl
  | d :: ds,n,0,_,_,h2=>by unfold pos;rw[if_neg (h2 d rfl)]
  | d :: ds,n,k+1,hk,h1,h2=>by
    unfold pos
    rw[if_pos (h1 0 d (by omega) rfl),pos_eq ds n k (by simpa using hk) (fun j e hj he=>h1 (j+1) e (by omega) (by simpa using he)) (fun e he=>h2 e (by simpa using he))]
theorem search_calls (v:Value)(ds:List (Int×Int))(n:Int)(w:World)(hp:P2 w 288 v ds)(hr:Rising ds) :
    Calls Tryz.prog 219 #[v,.int .i64 n,.func (.func 220) #[] #[]] w fun e w'=>e = .returned (.tuple #[.int .i64 (pos ds n:Nat),.bool (has ds n)])∧Below w.heap.size w w':=by
  obtain⟨A,cap,rfl,_⟩:=ow_slice hp.1
  obtain⟨l,hl⟩ : ∃l,ds.length=l:=⟨_,rfl⟩
  have HL:=Aside0.mk hl
  have HP:=Aside0.mk hp
  have HR:=Aside0.mk hr
  have hl5:l≤100000:=by rw[←hl];exact hp.2
  rw[hl]
  clear hp hr hl
  go_enter Tryz.func219,Tryz.ntmps219
  go_wp2_with fail
  go_loopg [9,10] (l+1) (fun kq v9 v10 w' => ∃i j:Int,v9 = .int .i64 i∧v10 = .int .i64 j∧Aside0 (0≤i∧i≤j∧j≤l∧(kq:Int)=j - i+1)∧Aside0 (∀(k:Nat) (d:Int×Int),(k:Int)<i→ds[k]? = some d→d.1<n)∧Aside0 (∀(k:Nat) (d:Int×Int),j≤(k:Int)→ds[k]? = some d→¬d.1<n)∧Aside0 (Below w.heap.size w w'))
  case atStart=>exact⟨0,l,rfl,rfl,⟨by omega,by omega,by omega,by omega⟩,⟨fun k d h=>by omega⟩,⟨fun k d h hd=>by have:=(List.getElem?_eq_some_iff.1 hd).1;have:=HL.out;omega⟩,⟨Below.refl _ _⟩⟩
  case round=>
    obtain⟨i,j,rfl,rfl,HI,HA,HZ,HB⟩:=hrel
    have hi0:0≤i:=HI.out.1
    have hj0:j≤100000:=by have:=HI.out;omega
    by_cases hlt:i<j
    · have hij:0≤i+j:=by omega
      have hij2:i+j≤200000:=by omega
      obtain⟨h,hh⟩ : ∃h,(i+j) / 2=h:=⟨_,rfl⟩
      have hh0:0≤h:=by omega
      have hhi:i≤h:=by omega
      have hhj:h<j:=by omega
      have hhl:h<l:=by have:=HI.out;omega
      have hhb:h≤100000:=by omega
      obtain⟨⟨pg,fr⟩,hd⟩ : ∃d,ds[h.toNat]? = some d:=⟨_,List.getElem?_eq_getElem (by have:=HL.out;omega)⟩
      obtain⟨g,rfl⟩ : ∃g,A=some ⟨g,0,none⟩:=by
        rcases HP.out.form with ⟨_,h0⟩ | ⟨g,c,hv,_⟩
        · rw[h0] at hd;simp at hd
        · injection hv with h1;exact⟨g,h1⟩
      have hcl:wr.cell? ⟨g,h.toNat*2,none⟩=some (.int .i64 pg)∧wr.cell? ⟨g,h.toNat*2+1,none⟩=some (.int .i64 fr):=by
        rcases (P2.below HP.out HB.out).form with ⟨_,h0⟩ | ⟨g',c,hv,hc,_⟩
        · rw[h0] at hd;simp at hd
        · injection hv with h1;injection h1 with h1;injection h1 with h1;subst h1;exact hc _ _ hd
      obtain⟨hd0,hd1⟩:=hcl
      have HD:=Aside0.mk hd
      have HHH:=Aside0.mk (And.intro hhi hhj)
      clear hd hhi hhj
      go_wp2_with fail
      refine (clos_find pg fr n _).mono ?_
      rintro e w1 ⟨rfl,hb⟩
      replace HB:=Aside0.mk (below_step HB.out hb)
      clear hb hd0 hd1
      by_cases hc:pg<n
      · have hq:decide (cmpI pg n<0)=true:=by unfold cmpI;rw[if_pos hc];rfl
        have HC:=Aside0.mk hc
        clear hc
        go_wp2_with fail
        go_roundg (gk - (h+1 - i).toNat)
        case measure=>have:=HI.out;have:=HHH.out;omega
        case rel=>
          refine⟨h+1,j,rfl,rfl,⟨by omega,by have:=HHH.out;omega,by have:=HI.out;omega,by have:=HI.out;have:=HHH.out;omega⟩,⟨fun k d hk hd => ?_⟩,HZ,HB⟩
          rcases (show (k:Int)<h∨k=h.toNat by omega) with h1 | h1
          · obtain⟨hk1,hk2⟩:=List.getElem?_eq_some_iff.1 hd
            obtain⟨hg1,hg2⟩:=List.getElem?_eq_some_iff.1 HD.out
            have:=List.pairwise_iff_getElem.1 HR.out k h.toNat hk1 hg1 (by omega)
            rw[hk2,hg2] at this
            have hc:=HC.out
            simp only at this
            omega
          · subst h1
            rw[HD.out] at hd
            injection hd with hd
            subst hd
            exact HC.out
      · have hq:decide (cmpI pg n<0)=false:=by unfold cmpI;rw[if_neg hc];split<;>rfl
        have HC:=Aside0.mk hc
        clear hc
        go_wp2_with fail
        go_roundg (gk - (j - h).toNat)
        case measure=>have:=HI.out;have:=HHH.out;omega
        case rel=>
          refine⟨i,h,rfl,rfl,⟨by omega,by have:=HHH.out;omega,by omega,by have:=HI.out;have:=HHH.out;omega⟩,HA,⟨fun k d hk hd => ?_⟩,HB⟩
          rcases (show h<(k:Int)∨k=h.toNat by omega) with h1 | h1
          · obtain⟨hk1,hk2⟩:=List.getElem?_eq_some_iff.1 hd
            obtain⟨hg1,hg2⟩:=List.getElem?_eq_some_iff.1 HD.out
            have:=List.pairwise_iff_getElem.1 HR.out h.toNat k hg1 hk1 (by omega)
            rw[hk2,hg2] at this
            have hc:=HC.out
            simp only at this
            omega
          · subst h1
            rw[HD.out] at hd
            injection hd with hd
            subst hd
            exact HC.out
    · have HIJ:=Aside0.mk (show i=j by have:=HI.out;omega)
      have HPOS:=Aside0.mk (show ((pos ds n:Nat):Int)=i by
        rw[pos_eq ds n i.toNat (by have:=HI.out;have:=HL.out;omega) (fun k d hk hd=>HA.out k d (by omega) hd) (fun d hd=>HZ.out i.toNat d (by have:=HIJ.out;omega) hd)]
        omega)
      by_cases hil:i<l
      · obtain⟨⟨pg,fr⟩,hd⟩ : ∃d,ds[i.toNat]? = some d:=⟨_,List.getElem?_eq_getElem (by have:=HL.out;omega)⟩
        obtain⟨g,rfl⟩ : ∃g,A=some ⟨g,0,none⟩:=by
          rcases HP.out.form with ⟨_,h0⟩ | ⟨g,c,hv,_⟩
          · rw[h0] at hd;simp at hd
          · injection hv with h1;exact⟨g,h1⟩
        have hcl:wr.cell? ⟨g,i.toNat*2,none⟩=some (.int .i64 pg)∧wr.cell? ⟨g,i.toNat*2+1,none⟩=some (.int .i64 fr):=by
          rcases (P2.below HP.out HB.out).form with ⟨_,h0⟩ | ⟨g',c,hv,hc,_⟩
          · rw[h0] at hd;simp at hd
          · injection hv with h1;injection h1 with h1;injection h1 with h1;subst h1;exact hc _ _ hd
        obtain⟨hd0,hd1⟩:=hcl
        have HHAS:=Aside0.mk (show has ds n=(cmpI pg n == 0) by
          unfold has
          rw[show pos ds n=i.toNat from by have:=HPOS.out;omega,hd]
          have hz:=HZ.out i.toNat _ (by have:=HIJ.out;omega) hd
          simp only at hz
          unfold cmpI
          rw[if_neg hz]
          by_cases h:n<pg
          · rw[if_pos h];simp;omega
          · rw[if_neg h];simp;omega)
        clear hd
        have hlt2:decide (i<(l:Int))=true:=decide_eq_true hil
        go_wp2_with fail
        refine (clos_find pg fr n _).mono ?_
        rintro e w1 ⟨rfl,hb⟩
        replace HB:=Aside0.mk (below_step HB.out hb)
        clear hb hd0 hd1
        go_wp2_with fail
        exact bodyPost_ret (v:=.tuple #[.int .i64 i,.bool (cmpI pg n == 0)]) (by simp[results,Tryz.results219,go_sem]) rfl ⟨by rw[HPOS.out,HHAS.out],HB.out⟩
      · have HHAS:=Aside0.mk (show has ds n=false by
          unfold has
          rw[show pos ds n=i.toNat from by have:=HPOS.out;omega,List.getElem?_eq_none (by have:=HL.out;omega)])
        go_wp2_with fail
        exact bodyPost_ret (v:=.tuple #[.int .i64 i,.bool false]) (by simp[results,Tryz.results219,go_sem]) rfl ⟨by rw[HPOS.out,HHAS.out],HB.out⟩
theorem find_calls (p:Nat)(v:Value)(ds:List (Int×Int))(n:Int)(w:World)(hp:P2 w 288 v ds)(hr:Rising ds)(hc:w.cell? ⟨p,0,none⟩=some v) :
    Calls Tryz.prog 199 #[.pointer (some ⟨p,0,none⟩),.int .i64 n] w fun e w'=>e = .returned (.tuple #[.int .i64 (pos ds n:Nat),.bool (has ds n)])∧Below w.heap.size w w':=by
  have HP:=Aside0.mk hp
  have HR:=Aside0.mk hr
  clear hp hr
  go_enter Tryz.func199,Tryz.ntmps199
  go_wp2_with fail
  refine (search_calls v ds n _ HP.out HR.out).mono ?_
  rintro e w1 ⟨rfl,hb⟩
  have HB:=Aside0.mk hb
  clear hb
  go_wp2_with fail
  exact bodyPost_ret (v:=.tuple #[.int .i64 (pos ds n:Nat),.bool (has ds n)]) (by simp[results,Tryz.results199,go_sem]) rfl ⟨rfl,HB.out⟩
def fromOf (ds:List (Int×Int))(n:Int):Int:=if has ds n then (ds[pos ds n]?.map (·.2)).getD 0 else 0
theorem from_calls (p:Nat)(v:Value)(ds:List (Int×Int))(n:Int)(w:World)(hp:P2 w 288 v ds)(hr:Rising ds)(hc:w.cell? ⟨p,0,none⟩=some v) :
    Calls Tryz.prog 151 #[.pointer (some ⟨p,0,none⟩),.int .i64 n] w fun e w'=>e = .returned (.tuple #[.int .i64 (fromOf ds n),.bool (has ds n)])∧Below w.heap.size w w':=by
  have HP:=Aside0.mk hp
  have HC:=Aside0.mk hc
  have HFIND:=Aside0.mk (find_calls p v ds n w hp hr hc)
  clear hp hr hc
  obtain⟨k,hk⟩ : ∃k:Int,((pos ds n:Nat):Int)=k:=⟨_,rfl⟩
  cases hh:has ds n with
  | false=>
    have HF:=Aside0.mk (show fromOf ds n=0 by unfold fromOf;rw[hh];rfl)
    have HFD:=HFIND.out
    rw[hh,hk] at HFD
    have HFD':=Aside0.mk HFD
    clear HFD hh hk
    go_enter Tryz.func151,Tryz.ntmps151
    go_wp2_with fail
    refine HFD'.out.mono ?_
    rintro e w1 ⟨rfl,hb⟩
    have HB:=Aside0.mk hb
    clear hb
    go_wp2_with fail
    exact bodyPost_ret (v:=.tuple #[.int .i64 0,.bool false]) (by simp[results,Tryz.results151,go_sem]) rfl ⟨by rw[HF.out],HB.out⟩
  | true=>
    obtain⟨⟨pg,fr⟩,hd⟩ : ∃d,ds[pos ds n]? = some d:=by
      unfold has at hh
      cases hq:ds[pos ds n]? with
      | none=>rw[hq] at hh;cases hh
      | some d=>exact⟨d,rfl⟩
    have HF:=Aside0.mk (show fromOf ds n=fr by unfold fromOf;rw[hh,hd];rfl)
    have HFD:=HFIND.out
    rw[hh,hk] at HFD
    have HFD':=Aside0.mk HFD
    have hlt:=(List.getElem?_eq_some_iff.1 hd).1
    have hk0:0≤k:=by omega
    have hkl:k<(ds.length:Int):=by omega
    have hkn:k.toNat=pos ds n:=by omega
    have HD:=Aside0.mk (show ds[k.toNat]? = some (pg,fr) by rw[hkn];exact hd)
    clear HFD hh hk hd hlt hkn
    go_enter Tryz.func151,Tryz.ntmps151
    go_wp2_with fail
    refine HFD'.out.mono ?_
    rintro e w1 ⟨rfl,hb⟩
    have HB:=Aside0.mk hb
    rcases (P2.below HP.out hb).form with ⟨_,h0⟩ | ⟨g,c,hv,hcl,_⟩
    · rw[h0] at hkl;simp at hkl;omega
    · subst hv
      obtain⟨hc0,hc1⟩:=hcl _ _ HD.out
      have hcv:=pw_cell_below hb HC.out
      clear hb hcl
      go_wp2_with fail
      exact bodyPost_ret (v:=.tuple #[.int .i64 fr,.bool true]) (by simp[results,Tryz.results151,go_sem]) rfl ⟨by rw[HF.out],HB.out⟩
end Go.Proofs.YtaplpeoikebedaaGreatDoor.Dirty
namespace Go.Proofs.YtaplpeoikebedaaGreatDoor.SysD
open Go.RowKit See Mem Clone Go.Proofs.YtaplpeoikebedaaGreatDoor.Cell Page PageB PageR Disk DiskN DiskW PageL RecD Dirty
def addT (ds:List (Int×Int))(n f:Int):List (Int×Int):=if has ds n then ds else ds.take (pos ds n)++(n,f) :: ds.drop (pos ds n)
def dropT (ds:List (Int×Int))(n:Int):List (Int×Int):=if has ds n then ds.eraseIdx (pos ds n) else ds
structure Fp where
  n:Int
  lsn:Int
  es:List (Int×Int)
def findP (fs:List Fp)(n:Int):Option Fp:=fs.find? fun f=>decide (f.n=n)
structure PSys where
  d:Dsk
  l:Lg
  t:List (Int×Int)
  frames:Int
  here:List Fp
def flushS (S:PSys)(n:Int):PSys×Option Nat:=
  match findP S.here n with
  | none=>(S,none)
  | some f=>
    if has S.t n=false then (S,none)
    else
      let q:=if S.l.doneN<f.lsn then lflush S.l S.d else (S.l,S.d,none)
      match q.2.2 with
      | some e=>({ S with l:=q.1,d:=q.2.1 },some e)
      | none=>
        match writeE q.2.1 n (pageBytes f.lsn f.es) with
        | some e=>({ S with l:=q.1,d:=writeD q.2.1 n (pageBytes f.lsn f.es) },some e)
        | none=>({ S with l:=q.1,d:=writeD q.2.1 n (pageBytes f.lsn f.es),t:=dropT S.t n },none)
def evictK (S:PSys)(hint:Int):Nat:=(max hint 0).toNat % S.here.length
def evictS (S:PSys)(hint:Int):PSys×Option Nat:=
  match S.here[evictK S hint]? with
  | none=>(S,none)
  | some f=>
    match flushS S f.n with
    | (S',some e)=>(S',some e)
    | (S',none)=>({ S' with here:=S'.here.eraseIdx (evictK S hint) },none)
inductive Flt where
  | fine
  | bare (k:Nat)
  | at (pos:Int) (k:Nat)
def Flt.of:Option Nat→Flt
  | none=>.fine
  | some k=>.bare k
def getS (S:PSys)(n hint:Int):PSys×(Int×List (Int×Int))×Flt:=
  match findP S.here n with
  | some f=>(S,(f.lsn,f.es),.fine)
  | none=>
    if n<1 then (S,(0,[]),.bare 1)
    else
      let q:=if S.frames≤S.here.length then evictS S hint else (S,none)
      match q.2 with
      | some e=>(q.1,(0,[]),.bare e)
      | none=>
        match readE q.1.d n with
        | some e=>(q.1,(0,[]),.bare e)
        | none=>
          match readPage (readV q.1.d n) with
          | none=>(q.1,(0,[]),.at n 6)
          | some g=>({ q.1 with here:=q.1.here++[⟨n,g.1,g.2⟩] },g,.fine)
def setS (S:PSys)(n lsn:Int)(es:List (Int×Int)):PSys×Option Nat:=
  match findP S.here n with
  | none=>(S,some 1)
  | some f=>
    if pageOk lsn es then ({ S with here:=S.here.map fun g=>if g.n=n then ⟨n,lsn,es⟩ else g,t:=addT S.t n lsn },none)
    else (S,some 1)
def flushL:PSys→List Int→PSys×Option Nat
  | S,[]=>(S,none)
  | S,n :: ns=>match flushS S n with
    | (S',some e)=>(S',some e)
    | (S',none)=>flushL S' ns
end Go.Proofs.YtaplpeoikebedaaGreatDoor.SysD
namespace Go.Proofs.YtaplpeoikebedaaGreatDoor.Rec
open Go.RowKit YtaplpeoikebedaaGreatDoorW.PrintWords YtaplpeoikebedaaGreatDoorW.PrintLast YtaplpeoikebedaaGreatDoorW.PrintMore
open See Mem Clone Go.Proofs.YtaplpeoikebedaaGreatDoor.Cell Page PageB PageR Disk RecD
attribute [local go_sem] max2_imax min2_imin max_two min_two
theorem in_calls (n lo hi:Int)(b:Bool)(hb:inB n lo hi=b)(w:World) :
    Calls Tryz.prog 163 #[.int .i64 n,.int .i64 lo,.int .i64 hi] w fun e w'=>e = .returned (.bool b)∧w=w':=by
  subst hb
  by_cases h1:lo≤n
  · have q1:decide (n≥lo)=true:=decide_eq_true h1
    have HR:=Aside0.mk (show inB n lo hi=decide (n≤hi) by unfold inB;rw[decide_eq_true h1];rfl)
    clear h1
    go_enter Tryz.func163,Tryz.ntmps163
    go_wp2
    go_ret
    exact⟨by simp[HR.out],rfl⟩
  · have q1:decide (n≥lo)=false:=decide_eq_false h1
    have HR:=Aside0.mk (show inB n lo hi=false by unfold inB;rw[decide_eq_false h1];rfl)
    clear h1
    go_enter Tryz.func163,Tryz.ntmps163
    go_wp2
    go_ret
    exact⟨by simp[HR.out],rfl⟩
abbrev recV (r:RecV):Value:=.agg #[.int .i64 r.kind,.int .i64 r.txn,.int .i64 r.page,.int .i64 r.prev,.int .i64 r.next,.int .i64 r.key,.bool r.had,.bool r.has,.int .i64 r.old,.int .i64 r.new]
theorem prev_calls (r:RecV)(b:Bool)(hb:prevOk r=b)(w:World) :
    Calls Tryz.prog 164 #[recV r] w fun e w'=>e = .returned (.bool b)∧Below w.heap.size w w':=by
  obtain⟨k,t,pg,pv,nx,ky,hd,hs,ol,nw⟩:=r
  have HBB:=Aside0.mk hb
  clear hb
  rcases (show k=1∨k=7∨k=10∨k=9∨(k≠1∧k≠7∧k≠10∧k≠9) by omega) with h | h | h | h | ⟨h1,h2,h3,h4⟩
  · subst h
    go_enter Tryz.func164,Tryz.ntmps164
    go_wp2
    go_ret
    exact⟨by simp;rw[←HBB.out];simp[prevOk],below_alloc (Below.refl _ _) _⟩
  · subst h
    go_enter Tryz.func164,Tryz.ntmps164
    go_wp2
    go_ret
    exact⟨by simp;rw[←HBB.out];simp[prevOk],below_alloc (Below.refl _ _) _⟩
  · subst h
    go_enter Tryz.func164,Tryz.ntmps164
    go_wp2
    go_ret
    exact⟨by simp;rw[←HBB.out];simp[prevOk],below_alloc (Below.refl _ _) _⟩
  · subst h
    go_enter Tryz.func164,Tryz.ntmps164
    go_wp2_with fail
    refine (in_calls _ _ _ _ rfl _).mono ?_
    rintro e w' ⟨rfl,rfl⟩
    go_wp2_with fail
    go_ret
    exact⟨by simp;rw[←HBB.out];simp[prevOk],below_alloc (Below.refl _ _) _⟩
  · have q1:(k == 1)=false:=by simp[h1]
    have q2:(k == 7)=false:=by simp[h2]
    have q3:(k == 10)=false:=by simp[h3]
    have q4:(k == 9)=false:=by simp[h4]
    have HH:=Aside0.mk (And.intro h1 (And.intro h2 (And.intro h3 h4)))
    clear h1 h2 h3 h4
    go_enter Tryz.func164,Tryz.ntmps164
    go_wp2_with fail
    refine (in_calls _ _ _ _ rfl _).mono ?_
    rintro e w' ⟨rfl,rfl⟩
    go_wp2_with fail
    go_ret
    obtain⟨h1,h2,h3,h4⟩:=HH.out
    exact⟨by simp;rw[←HBB.out];simp[prevOk,h1,h2,h3,h4],below_alloc (Below.refl _ _) _⟩
theorem next_calls (r:RecV)(b:Bool)(hb:nextOk r=b)(w:World) :
    Calls Tryz.prog 165 #[recV r] w fun e w'=>e = .returned (.bool b)∧Below w.heap.size w w':=by
  obtain⟨k,t,pg,pv,nx,ky,hd,hs,ol,nw⟩:=r
  have HBB:=Aside0.mk hb
  clear hb
  rcases (show k=3∨k=8∨k=10∨(k≠3∧k≠8∧k≠10) by omega) with h | h | h | ⟨h1,h2,h3⟩
  · subst h
    go_enter Tryz.func165,Tryz.ntmps165
    go_wp2_with fail
    refine (in_calls _ _ _ _ rfl _).mono ?_
    rintro e w' ⟨rfl,rfl⟩
    go_wp2_with fail
    go_ret
    exact⟨by simp;rw[←HBB.out];simp[nextOk],below_alloc (Below.refl _ _) _⟩
  · subst h
    go_enter Tryz.func165,Tryz.ntmps165
    go_wp2_with fail
    refine (in_calls _ _ _ _ rfl _).mono ?_
    rintro e w' ⟨rfl,rfl⟩
    go_wp2_with fail
    go_ret
    exact⟨by simp;rw[←HBB.out];simp[nextOk],below_alloc (Below.refl _ _) _⟩
  · subst h
    go_enter Tryz.func165,Tryz.ntmps165
    go_wp2_with fail
    refine (in_calls _ _ _ _ rfl _).mono ?_
    rintro e w' ⟨rfl,rfl⟩
    go_wp2_with fail
    go_ret
    exact⟨by simp;rw[←HBB.out];simp[nextOk],below_alloc (Below.refl _ _) _⟩
  · have q1:(k == 3)=false:=by simp[h1]
    have q2:(k == 8)=false:=by simp[h2]
    have q3:(k == 10)=false:=by simp[h3]
    have HH:=Aside0.mk (And.intro h1 (And.intro h2 h3))
    clear h1 h2 h3
    go_enter Tryz.func165,Tryz.ntmps165
    go_wp2_with fail
    go_ret
    obtain⟨h1,h2,h3⟩:=HH.out
    exact⟨by simp;rw[←HBB.out];simp[nextOk,h1,h2,h3],below_alloc (Below.refl _ _) _⟩
theorem key_calls (r:RecV)(b:Bool)(hb:rkeyOk r=b)(w:World) :
    Calls Tryz.prog 166 #[recV r] w fun e w'=>e = .returned (.bool b)∧Below w.heap.size w w':=by
  obtain⟨k,t,pg,pv,nx,ky,hd,hs,ol,nw⟩:=r
  have HBB:=Aside0.mk hb
  clear hb
  rcases (show k=2∨k=3∨k=8∨(k≠2∧k≠3∧k≠8) by omega) with h | h | h | ⟨h1,h2,h3⟩
  · subst h
    go_enter Tryz.func166,Tryz.ntmps166
    go_wp2_with fail
    refine (in_calls _ _ _ _ rfl _).mono ?_
    rintro e w' ⟨rfl,rfl⟩
    go_wp2_with fail
    go_ret
    exact⟨by simp;rw[←HBB.out];simp[rkeyOk],below_alloc (Below.refl _ _) _⟩
  · subst h
    go_enter Tryz.func166,Tryz.ntmps166
    go_wp2_with fail
    refine (in_calls _ _ _ _ rfl _).mono ?_
    rintro e w' ⟨rfl,rfl⟩
    go_wp2_with fail
    go_ret
    exact⟨by simp;rw[←HBB.out];simp[rkeyOk],below_alloc (Below.refl _ _) _⟩
  · subst h
    go_enter Tryz.func166,Tryz.ntmps166
    go_wp2_with fail
    refine (in_calls _ _ _ _ rfl _).mono ?_
    rintro e w' ⟨rfl,rfl⟩
    go_wp2_with fail
    go_ret
    exact⟨by simp;rw[←HBB.out];simp[rkeyOk],below_alloc (Below.refl _ _) _⟩
  · have q1:(k == 2)=false:=by simp[h1]
    have q2:(k == 3)=false:=by simp[h2]
    have q3:(k == 8)=false:=by simp[h3]
    have HH:=Aside0.mk (And.intro h1 (And.intro h2 h3))
    clear h1 h2 h3
    go_enter Tryz.func166,Tryz.ntmps166
    go_wp2_with fail
    go_ret
    obtain⟨h1,h2,h3⟩:=HH.out
    exact⟨by simp;rw[←HBB.out];simp[rkeyOk,h1,h2,h3],below_alloc (Below.refl _ _) _⟩
theorem valsOk_bad {r:RecV}(h:(r.has=false∧r.new≠0)∨(r.had=false∧r.old≠0)):valsOk r=false:=by unfold valsOk;rw[if_pos h]
theorem values_calls (r:RecV)(b:Bool)(hb:valsOk r=b)(w:World) :
    Calls Tryz.prog 167 #[recV r] w fun e w'=>e = .returned (.bool b)∧Below w.heap.size w w':=by
  obtain⟨k,t,pg,pv,nx,ky,hd,hs,ol,nw⟩:=r
  have HBB:=Aside0.mk hb
  clear hb
  rcases (show (hs=false∧nw≠0)∨(hs=true∧hd=false∧ol≠0)∨((hs=false∧nw=0)∧hd=false∧ol≠0)∨((hs=true∨(hs=false∧nw=0))∧(hd=true∨(hd=false∧ol=0))) by
    cases hs<;>cases hd<;>simp<;>omega) with ⟨rfl,h⟩ | ⟨rfl,rfl,h⟩ | ⟨⟨rfl,rfl⟩,rfl,h⟩ | ⟨h1,h2⟩
  · have q1:(nw != 0)=true:=by simp[h]
    have HH:=Aside0.mk h
    clear h
    go_enter Tryz.func167,Tryz.ntmps167
    go_wp2
    go_ret
    exact⟨by simp;rw[←HBB.out,valsOk_bad (.inl ⟨rfl,HH.out⟩)],below_alloc (Below.refl _ _) _⟩
  · have q1:(ol != 0)=true:=by simp[h]
    have HH:=Aside0.mk h
    clear h
    go_enter Tryz.func167,Tryz.ntmps167
    go_wp2
    go_ret
    exact⟨by simp;rw[←HBB.out,valsOk_bad (.inr ⟨rfl,HH.out⟩)],below_alloc (Below.refl _ _) _⟩
  · have q1:(ol != 0)=true:=by simp[h]
    have HH:=Aside0.mk h
    clear h
    go_enter Tryz.func167,Tryz.ntmps167
    go_wp2
    go_ret
    exact⟨by simp;rw[←HBB.out,valsOk_bad (.inr ⟨rfl,HH.out⟩)],below_alloc (Below.refl _ _) _⟩
  · rcases h1 with rfl | ⟨rfl,rfl⟩<;>rcases h2 with rfl | ⟨rfl,rfl⟩
    all_goals
      rcases (show k=2∨k=3∨(k≠2∧k≠3) by omega) with h | h | ⟨h1,h2⟩
      · subst h
        go_enter Tryz.func167,Tryz.ntmps167
        go_wp2
        go_ret
        exact⟨by simp;rw[←HBB.out];simp[valsOk],below_alloc (Below.refl _ _) _⟩
      · subst h
        first
          | (rcases (show ol<1∨1≤ol by omega) with ho | ho
             · have HO:=Aside0.mk ho
               have q3:decide (ol≥1)=false:=decide_eq_false (by omega)
               clear ho
               go_enter Tryz.func167,Tryz.ntmps167
               go_wp2_with fail
               go_ret
               exact⟨by have:=HO.out;simp;rw[←HBB.out];simp[valsOk];try omega,below_alloc (Below.refl _ _) _⟩
             · have HO:=Aside0.mk ho
               have q3:decide (ol≥1)=true:=decide_eq_true (by omega)
               clear ho
               go_enter Tryz.func167,Tryz.ntmps167
               go_wp2_with fail
               go_ret
               exact⟨by have:=HO.out;simp;rw[←HBB.out];simp[valsOk];try omega,below_alloc (Below.refl _ _) _⟩)
          | (go_enter Tryz.func167,Tryz.ntmps167
             go_wp2_with fail
             go_ret
             exact⟨by simp;rw[←HBB.out];simp[valsOk],below_alloc (Below.refl _ _) _⟩)
      · have q3:(k == 2)=false:=by simp[h1]
        have q4:(k == 3)=false:=by simp[h2]
        have HH:=Aside0.mk (And.intro h1 h2)
        clear h1 h2
        go_enter Tryz.func167,Tryz.ntmps167
        go_wp2
        go_ret
        obtain⟨h1,h2⟩:=HH.out
        exact⟨by simp;rw[←HBB.out];simp[valsOk,h1,h2],below_alloc (Below.refl _ _) _⟩
end Go.Proofs.YtaplpeoikebedaaGreatDoor.Rec
