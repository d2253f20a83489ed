/- Joined texts: DiskS, Pool1, Pool2, Pool3. No condition but what each says. -/
import Derived.Test.YtaplpeoikebedaaGreatDoorY7
import Derived.Test.YtaplpeoikebedaaGreatDoorY6
set_option maxHeartbeats 8000000
set_option maxRecDepth 100000
set_option linter.unusedVariables false
set_option linter.unusedSimpArgs false
namespace Go.Proofs.YtaplpeoikebedaaGreatDoor.DiskS
open Go.RowKit YtaplpeoikebedaaGreatDoorW.PrintWords YtaplpeoikebedaaGreatDoorW.PrintLast YtaplpeoikebedaaGreatDoorW.PrintMore
open See Mem Clone Go.Proofs.YtaplpeoikebedaaGreatDoor.Cell Page PageB PageR Disk DiskN DiskW RecD
attribute [local go_sem] max2_imax min2_imin max_two min_two
theorem secCells_set2 (rs:List (Value×Value))(i:Nat)(x y:Value)(h:i<rs.length):((secCells rs).set (i*2) x).set (i*2+1) y=secCells (rs.set i (x,y)):=by
  induction rs generalizing i with
  | nil=>simp at h
  | cons s rs ih=>
    have e:secCells (s :: rs)=s.1 :: s.2 :: secCells rs:=by simp[secCells,List.flatMap_cons]
    cases i with
    | zero=>simp[secCells,List.flatMap_cons]
    | succ i=>
      rw[e,show (i+1)*2=i*2+1+1 from by omega,List.set_cons_succ,List.set_cons_succ,List.set_cons_succ,List.set_cons_succ,ih i (by simpa using h),List.set_cons_succ]
      simp[secCells,List.flatMap_cons]
theorem dsk_fast {M:Nat→Prop}{w:World}{p g cap:Nat}{rs:List (Value×Value)}{d:Dsk}(h:DskAt M w p g cap rs d){i:Nat}{r:Value×Value}{s:Sec}{x:Value}(hr:rs[i]? = some r)(hs:d.l[i]? = some s)(hx:BS w x s.last) :
    DskAt M ((w.setCell ⟨g,i*2,none⟩ x).setCell ⟨g,i*2+1,none⟩ (.slice none 0 0)) p g cap (rs.set i (x,.slice none 0 0)) { d with l:=d.l.set i (fastS s) }:=by
  obtain⟨cg,hcg⟩ : ∃c,w.heap[g]? = some (.cells c 175 (0,0)):=(ow_block h.row rfl).2
  have hset : ∀(k:Nat) (c:Array Value) (e:Nat) (fz:Nat×Nat),w.heap[k]? = some (.cells c e fz)→e≠175→((w.setCell ⟨g,i*2,none⟩ x).setCell ⟨g,i*2+1,none⟩ (.slice none 0 0)).heap[k]? = w.heap[k]? := fun k c e fz hk he=>by
    have hkg:k≠g:=fun e2=>by
      subst e2
      rw[hcg] at hk
      injection hk with hk;injection hk with _ hk
      exact he hk.symm
    rw[Below.heap_setCell _ _ _ _ (by exact hkg),Below.heap_setCell _ _ _ _ (by exact hkg)]
  have hbs : ∀x' b,BS w x' b→BS ((w.setCell ⟨g,i*2,none⟩ x).setCell ⟨g,i*2+1,none⟩ (.slice none 0 0)) x' b:=fun x' b hx'=>Rd.move hx' fun k hk=>by
    obtain⟨c,fz,hc⟩:=Rd.block hx' hk
    exact hset k _ _ _ hc (by decide)
  have hlr:i<rs.length:=(List.getElem?_eq_some_iff.1 hr).1
  have hll:i<d.l.length:=(List.getElem?_eq_some_iff.1 hs).1
  refine⟨?_,?_,by simp[h.len],h.mp,h.mg,fun j q s' hj hs' => ?_,fun j1 j2 q1 q2 k h1 h2 h3 h4 => ?_,fun s' hs' => ?_,by simpa using h.few⟩
  · rw[(hset p _ _ _ h.box (by decide)).trans h.box]
    simp[dskCells]
  · have o1:=(h.row.stored (i*2) x).1
    have o2:=(o1.stored (i*2+1) (.slice none 0 0)).1
    rw[secCells_set2 rs i x _ hlr] at o2
    simpa using o2
  · by_cases hji:j=i
    · subst hji
      rw[List.getElem?_set,if_pos rfl,if_pos hlr] at hj
      injection hj with hj
      subst hj
      rw[List.getElem?_set,if_pos rfl,if_pos hll] at hs'
      injection hs' with hs'
      subst hs'
      exact⟨hbs _ _ hx,⟨[],World.ownsRow_nil _ _ _ _,fun i b hb=>by simp[fastS] at hb⟩,fun k hk=>by cases hk⟩
    · rw[List.getElem?_set,if_neg (fun e=>hji e.symm)] at hj hs'
      obtain⟨h1,⟨vs,h2,h3⟩,h4⟩:=h.secs j q s' hj hs'
      refine⟨hbs _ _ h1,⟨vs,ow_move h2 fun k hk=>by obtain⟨_,c,hc⟩:=ow_block h2 hk;exact hset k _ _ _ hc (by decide),fun j2 b' hb' => ?_⟩,h4⟩
      obtain⟨y,hy,hy2⟩:=h3 j2 b' hb'
      exact⟨y,hy,hbs _ _ hy2⟩
  · rw[List.getElem?_set] at h1 h2
    by_cases e1:i=j1
    · rw[if_pos e1,if_pos hlr] at h1
      injection h1 with h1;subst h1
      cases h3
    · rw[if_neg e1] at h1
      by_cases e2:i=j2
      · rw[if_pos e2,if_pos hlr] at h2
        injection h2 with h2;subst h2
        cases h4
      · rw[if_neg e2] at h2
        exact h.apart j1 j2 q1 q2 k h1 h2 h3 h4
  · rcases List.mem_or_eq_of_mem_set hs' with h' | h'
    · exact h.ok s' h'
    · subst h'
      exact⟨Sec.last_ok (h.ok s (List.mem_of_getElem? hs)),fun b hb=>by simp[fastS] at hb⟩
def syncN (d:Dsk)(i:Nat):Dsk:={ d with l:=(d.l.take i).map fastS++d.l.drop i }
theorem syncN_zero (d:Dsk):syncN d 0=d:=by unfold syncN;simp
theorem syncN_all (d:Dsk):syncN d d.l.length={ d with l:=d.l.map fastS }:=by unfold syncN;simp
theorem syncN_at (d:Dsk)(i:Nat)(s:Sec)(h:d.l[i]? = some s):(syncN d i).l[i]? = some s:=by
  have hl:=(List.getElem?_eq_some_iff.1 h).1
  unfold syncN
  simp only
  rw[List.getElem?_append_right (by rw[List.length_map,List.length_take];omega),List.length_map,List.length_take,List.getElem?_drop,Nat.min_eq_left (by omega)]
  simpa using h
theorem syncN_succ (d:Dsk)(i:Nat)(s:Sec)(h:d.l[i]? = some s):{ syncN d i with l:=(syncN d i).l.set i (fastS s) }=syncN d (i+1):=by
  obtain⟨hl,he⟩:=List.getElem?_eq_some_iff.1 h
  unfold syncN
  simp only
  congr 1
  rw[List.set_append_right _ _ (by rw[List.length_map,List.length_take];omega),List.length_map,List.length_take,Nat.min_eq_left (by omega),Nat.sub_self,List.drop_eq_getElem_cons hl,List.set_cons_zero,List.take_succ_eq_append_getElem hl,List.map_append,he]
  simp
theorem syncN_skip (d:Dsk)(i:Nat)(s:Sec)(h:d.l[i]? = some s)(hs:s.loose=[]):syncN d i=syncN d (i+1):=by
  obtain⟨hl,he⟩:=List.getElem?_eq_some_iff.1 h
  unfold syncN
  congr 1
  have hf:fastS s=s:=by
    obtain⟨f,lo⟩:=s
    simp only at hs
    subst hs
    rfl
  rw[List.drop_eq_getElem_cons hl,List.take_succ_eq_append_getElem hl,List.map_append,he]
  simp[hf]
theorem syncN_len (d:Dsk)(i:Nat):(syncN d i).l.length=d.l.length:=by
  unfold syncN;simp;omega
def SyncPost (a:Nat→Addr)(M:Nat→Prop)(p:Nat)(d:Dsk)(w:World)(e:Ending)(w':World):Prop:=
  e = .returned (errv a (syncE d))∧DskM M w' p (syncD d)∧Frm dTurn M w w'
theorem spendD_l (d:Dsk):(spendD d).l=d.l:=by unfold spendD;split<;>(try split)<;>rfl
theorem sync_disk (a:Nat→Addr)(M:Nat→Prop)(p:Nat)(d:Dsk)(w:World)(hs:Sents w a)(hO:Out M a)(hd:DskM M w p d)(hf:FuseOk d)(hfew : ∀s∈d.l,s.loose.length≤100000) :
    Calls Tryz.prog 135 #[.pointer (some ⟨p,0,none⟩)] w (SyncPost a M p d w):=by
  have hDM:=Aside0.mk hd
  obtain⟨g,cap,rs,hd⟩:=hd
  obtain⟨hc0,hc1,hc2⟩:=hd.cells
  have HD:=Aside0.mk hd
  have HS:=Aside0.mk hs
  have HO:=Aside0.mk hO
  have HFU:=Aside0.mk hf
  have HFEW:=Aside0.mk hfew
  have hg0:w.cell? ⟨8,0,none⟩=some (.iface 333 (.pointer (some (a 0)))):=hs.cell 0 (by decide)
  obtain⟨off,hoff⟩ : ∃o,d.off=o:=⟨_,rfl⟩
  have HOFF:=Aside0.mk hoff
  rw[hoff] at hc1
  clear hd hs hO hf hoff hfew
  cases off with
  | true=>
    have HR:=Aside0.mk (show syncE d=some 0∧syncD d=d by unfold syncE syncD;simp[HOFF.out])
    go_enter Tryz.func135,Tryz.ntmps135
    go_wp2_with fail
    go_ret
    exact⟨by rw[HR.out.1];rfl,by rw[HR.out.2];exact hDM.out,Frm.refl _ _ _⟩
  | false=>
    go_enter Tryz.func135,Tryz.ntmps135
    go_wp2_with fail
    refine (spend_disk M p g cap rs d _ HD.out HFU.out.1 HFU.out.2).mono ?_
    rintro e w1 ⟨rfl,hd1,hf1⟩
    have HD1:=Aside0.mk hd1
    have HF1:=Aside0.mk hf1
    cases hsp:spendB d with
    | false=>
      have hg1:w1.cell? ⟨8,0,none⟩=some (.iface 333 (.pointer (some (a 0)))):=(sents_frm HS.out hf1 HO.out).cell 0 (by decide)
      have HR:=Aside0.mk (show syncE d=some 0∧syncD d=spendD d by unfold syncE syncD;simp[HOFF.out,hsp])
      clear hd1 hf1 hsp hc0 hc1 hc2
      go_wp2_with fail
      go_ret
      exact⟨by rw[HR.out.1];rfl,by rw[HR.out.2];exact⟨g,cap,rs,HD1.out⟩,HF1.out⟩
    | true=>
      have HR:=Aside0.mk (show syncE d=none∧syncD d={ spendD d with l:=(spendD d).l.map fastS } by unfold syncE syncD;simp[HOFF.out,hsp,spendD_l])
      obtain⟨hc10,hc11,hc12⟩:=hd1.cells
      obtain⟨d1,hd1e⟩ : ∃d1,spendD d=d1:=⟨_,rfl⟩
      have hfew1 : ∀s∈d1.l,s.loose.length≤100000:=by rw[←hd1e,spendD_l];exact HFEW.out
      rw[hd1e] at HD1 HR hc10
      replace HFEW:=Aside0.mk hfew1
      obtain⟨n,hn⟩ : ∃n,d1.l.length=n:=⟨_,rfl⟩
      have HN:=Aside0.mk hn
      have hn2:n≤200:=by rw[←hn];exact HD1.out.few
      rw[hn] at hc10
      clear hd1 hf1 hsp hc0 hc1 hc2 hg0 hc11 hc12 hd1e hfew1 hn
      go_wp2_with fail
      go_loopg [21] (n+1) (fun kq v21 w' => ∃(i:Int) (rs':List (Value×Value)),v21 = .int .i64 i∧Aside0 (0≤i∧i≤n∧(kq:Int)=n+1 - i)∧Aside0 (DskAt M w' p g cap rs' (syncN d1 i.toNat))∧Aside0 (Frm dTurn M w w'))
      case atStart=>exact⟨0,_,rfl,⟨by omega,by omega,by omega⟩,⟨by rw[show (0:Int).toNat=0 from rfl,syncN_zero];exact HD1.out⟩,HF1⟩
      case round=>
        obtain⟨i,rs',rfl,HI,HDW,HFW⟩:=hrel
        have hi0:0≤i:=HI.out.1
        by_cases hlt:i<n
        · obtain⟨s,hs⟩ : ∃s,d1.l[i.toNat]? = some s:=⟨_,List.getElem?_eq_getElem (by have:=HN.out;omega)⟩
          have hs1:=syncN_at d1 i.toNat s hs
          obtain⟨r,hr⟩ : ∃r,rs'[i.toNat]? = some r:=⟨_,List.getElem?_eq_getElem (by have:=HDW.out.len;rw[syncN_len] at this;have:=HN.out;omega)⟩
          obtain⟨hcb,_,_⟩:=HDW.out.cells
          rw[syncN_len,HN.out] at hcb
          obtain⟨fv,lv⟩:=r
          obtain⟨hfast,⟨vs,hown,hls⟩,hlow⟩:=HDW.out.secs _ _ s hr hs1
          obtain⟨hd0,hd1⟩:=HDW.out.sec hr
          simp only at hd0 hd1 hown hfast
          obtain⟨m,hm⟩ : ∃m,s.loose.length=m:=⟨_,rfl⟩
          have hm5:m≤100000:=by rw[←hm];exact HFEW.out s (List.mem_of_getElem? hs)
          obtain⟨A',c',rfl,hA'⟩:=ow_slice hown
          rw[hm] at hd1 hown hA'
          have HSS:=Aside0.mk (And.intro hs (And.intro hr hs1))
          have HOW:=Aside0.mk hown
          have HLS:=Aside0.mk hls
          have HMM:=Aside0.mk hm
          have hz0:wr.frozen? ⟨g,i.toNat*2,none⟩=false:=HDW.out.row.frozenAt _
          have hz1:wr.frozen? ⟨g,i.toNat*2+1,none⟩=false:=HDW.out.row.frozenAt _
          clear hs hs1 hr hfast hown hls hlow hm
          by_cases hm0:m=0
          · have HSK:=Aside0.mk (syncN_skip d1 i.toNat s HSS.out.1 (List.eq_nil_of_length_eq_zero (by rw[HMM.out];exact hm0)))
            subst hm0
            clear hA' hd0
            go_wp2_with fail
            go_roundg (gk - 1)
            case measure=>have:=HI.out;omega
            case rel=>exact⟨i+1,rs',rfl,⟨by omega,by omega,by have:=HI.out;omega⟩,⟨by rw[show (i+1).toNat=i.toNat+1 from by omega,←HSK.out];exact HDW.out⟩,HFW⟩
          · have hm1:0<m:=by omega
            obtain⟨lg,rfl⟩ : ∃lg,A'=some ⟨lg,0,none⟩:=by
              obtain⟨g',c2,he,_⟩:=HOW.out.form hm1
              injection he with he1
              exact⟨g',he1⟩
            obtain⟨b,hb⟩ : ∃b,s.loose[m - 1]? = some b:=⟨_,List.getElem?_eq_getElem (by have:=HMM.out;omega)⟩
            obtain⟨x,hx,hbx⟩:=HLS.out _ b hb
            have HL:=Aside0.mk (show s.last=b by unfold Sec.last;rw[List.getLast?_eq_getElem?,HMM.out,hb];rfl)
            have HBX:=Aside0.mk hbx
            have hcx:wr.cell? ⟨lg,m - 1,none⟩=some x:=by rw[HOW.out.cellAt _ (by omega)];exact hx
            obtain⟨xA,xc,hxv,_⟩:=Rd.form hbx
            have hgt:decide ((m:Int)>0)=true:=decide_eq_true (by omega)
            obtain⟨mm,hmm⟩ : ∃mm:Int,(m:Int)=mm:=⟨_,rfl⟩
            have h1m:1≤mm:=by omega
            have hm6:mm≤100000:=by omega
            have htn:(mm - 1).toNat=m - 1:=by omega
            have htn2:mm.toNat - 1=m - 1:=by omega
            have hnl:mm - 1<mm:=by omega
            have h0m:0<mm:=by omega
            have hnm : ¬mm≤0:=by omega
            rw[hmm] at hgt
            clear hb hx hbx hA'
            subst hxv
            go_wp2_with fail
            go_roundg (gk - 1)
            case measure=>have:=HI.out;omega
            case rel=>
              obtain⟨s1,s2,s3⟩:=HSS.out
              refine⟨i+1,rs'.set i.toNat (.slice xA b.length xc,.slice none 0 0),rfl,⟨by omega,by omega,by have:=HI.out;omega⟩,⟨?_⟩,⟨?_⟩⟩
              · have h:=dsk_fast HDW.out s2 s3 (by rw[HL.out];exact HBX.out)
                rw[syncN_succ d1 i.toNat s s1] at h
                rw[show (i+1).toNat=i.toNat+1 from by omega]
                exact h
              · obtain⟨_,cg,hcg⟩:=ow_block HDW.out.row rfl
                have hg : ∀(W:World),Frm dTurn M w W→g<w.heap.size→tag w g∈dTurn:=fun W hW hlt=>by
                  by_cases hk:w.heap[g]? = wr.heap[g]?
                  · rw[tag_eq hk.symm |>.symm,tag_of hcg];decide
                  · exact Classical.byContradiction fun hn=>hk (HFW.out.block g hlt (fun _=>hn)).symm
                exact (HFW.out.set (fun hlt=>⟨HDW.out.mg,hg _ HFW.out hlt⟩) _).set (fun hlt=>⟨HDW.out.mg,hg _ HFW.out hlt⟩) _
        · have HALL:=Aside0.mk (show syncN d1 i.toNat=syncD d by
            rw[HR.out.2,show i.toNat=d1.l.length from by have:=HI.out;have:=HN.out;omega,syncN_all])
          go_wp2_with fail
          go_ret
          exact⟨by rw[HR.out.1];rfl,⟨g,cap,rs',by rw[←HALL.out];exact HDW.out⟩,HFW.out⟩
end Go.Proofs.YtaplpeoikebedaaGreatDoor.DiskS
namespace Go.Proofs.YtaplpeoikebedaaGreatDoor.Pool1
open Go.RowKit YtaplpeoikebedaaGreatDoorW.PrintWords YtaplpeoikebedaaGreatDoorW.PrintLast YtaplpeoikebedaaGreatDoorW.PrintMore
open See Mem Clone Go.Proofs.YtaplpeoikebedaaGreatDoor.Cell Page PageB PageR Disk DiskN
attribute [local go_sem] max2_imax min2_imin max_two min_two
structure Fr where
  n:Int
  lsn:Int
  v:Value
  es:List (Int×Int)
def frCells (fs:List Fr):List Value:=fs.flatMap fun f=>[.int .i64 f.n,.int .i64 f.lsn,f.v]
theorem frCells_append (a b:List Fr):frCells (a++b)=frCells a++frCells b:=by unfold frCells;rw[List.flatMap_append]
theorem frCells_at : ∀(fs:List Fr) (i:Nat) (f:Fr),fs[i]? = some f→(frCells fs)[i*3]? = some (.int .i64 f.n)∧(frCells fs)[i*3+1]? = some (.int .i64 f.lsn)∧(frCells fs)[i*3+2]? = some f.v
  | [],i,t,h=>by simp at h
  | s :: ps,0,t,h=>by
    simp at h;subst h
    exact⟨by simp[frCells,List.flatMap_cons],by simp[frCells,List.flatMap_cons],by simp[frCells,List.flatMap_cons]⟩
  | s :: ps,i+1,t,h=>by
    have:=frCells_at ps i t (by simpa using h)
    have e:frCells (s :: ps)=[.int .i64 s.n,.int .i64 s.lsn,s.v]++frCells ps:=by simp[frCells,List.flatMap_cons]
    rw[e,List.getElem?_append_right (by simp;omega),List.getElem?_append_right (by simp;omega),List.getElem?_append_right (by simp;omega)]
    simp only[List.length_cons,List.length_nil]
    rw[show (i+1)*3 - (0+1+1+1)=i*3 from by omega,show (i+1)*3+1 - (0+1+1+1)=i*3+1 from by omega,show (i+1)*3+2 - (0+1+1+1)=i*3+2 from by omega]
    exact this
structure FrsM (w:World) (v:Value) (fs:List Fr):Prop where
  row:w.ownsRow 0 157 3 v fs.length (frCells fs)
  pages : ∀f∈fs,P2 w 169 f.v f.es
  few:fs.length≤8
theorem clos_calls (b:Nat)(n m lsn:Int)(v:Value)(A:Option Addr)(l c:Nat)(hv:v = .slice A l c)(w:World)(hc:w.cell? ⟨b,0,none⟩=some (.int .i64 n)) :
    Calls Tryz.prog 145 #[.agg #[.int .i64 m,.int .i64 lsn,v],.pointer (some ⟨b,0,none⟩)] w fun e w'=>e = .returned (.bool (m == n))∧Below w.heap.size w w':=by
  subst hv
  have hlt:b<w.heap.size:=World.block_lt_of_cell? _ _ hc
  go_enter Tryz.func145,Tryz.ntmps145
  go_wp2
  go_ret
  exact⟨by simp,by repeat (first | exact Below.refl _ _ | apply pw_below_drewN | apply below_drew1 | apply below_alloc)⟩
def idxFrom (n:Int):List Fr→Int→Int
  | [],_ => -1
  | f :: fs,k=>if f.n=n then k else idxFrom n fs (k+1)
def idxOf (fs:List Fr)(n:Int):Int:=idxFrom n fs 0
theorem idxFrom_hit (n:Int) : ∀(fs:List Fr) (k:Int) (i:Nat) (f:Fr),(∀j g,j<i→fs[j]? = some g→g.n≠n)→fs[i]? = some f→f.n=n→idxFrom n fs k=k+i
  | [],k,i,f,_,h,_=>by simp at h
  | g :: fs,k,0,f,_,h,hn=>by
    simp at h;subst h
    unfold idxFrom;rw[if_pos hn];omega
  | g :: fs,k,i+1,f,hj,h,hn=>by
    unfold idxFrom
    rw[if_neg (hj 0 g (by omega) rfl),idxFrom_hit n fs (k+1) i f (fun j q hq hq2=>hj (j+1) q (by omega) (by simpa using hq2)) (by simpa using h) hn]
    omega
theorem idxFrom_none (n:Int) : ∀(fs:List Fr) (k:Int),(∀f∈fs,f.n≠n)→idxFrom n fs k = -1
  | [],k,_=>rfl
  | g :: fs,k,h=>by
    unfold idxFrom
    rw[if_neg (h g (List.mem_cons_self ..)),idxFrom_none n fs (k+1) fun f hf=>h f (List.mem_cons_of_mem _ hf)]
theorem FrsM.below {w w':World}{v:Value}{fs:List Fr}(h:FrsM w v fs)(hb:Below w.heap.size w w'):FrsM w' v fs:=⟨ow_below h.row hb,fun f hf=>P2.below (h.pages f hf) hb,h.few⟩
theorem FrsM.at {w:World}{A:Option Addr}{l cap:Nat}{fs:List Fr}(h:FrsM w (.slice A l cap) fs){i:Nat}{f:Fr}(hi:fs[i]? = some f) :
    ∃g,A=some ⟨g,0,none⟩∧l=fs.length∧w.cell? ⟨g,i*3,none⟩=some (.int .i64 f.n)∧w.cell? ⟨g,i*3+1,none⟩=some (.int .i64 f.lsn)∧w.cell? ⟨g,i*3+2,none⟩=some f.v∧∃A' c',f.v = .slice A' f.es.length c':=by
  have hlt:i<fs.length:=(List.getElem?_eq_some_iff.1 hi).1
  obtain⟨g,c2,hv,_,_⟩:=h.row.form (by omega)
  injection hv with h1 h2 h3
  subst h1 h2 h3
  obtain⟨c0,c1,c2⟩:=frCells_at fs i f hi
  obtain⟨A',c',hf,_⟩:=ow_slice (h.pages f (List.mem_of_getElem? hi)).1
  refine⟨g,rfl,rfl,?_,?_,?_,A',c',hf⟩
  · rw[h.row.cellAt _ (by omega)];exact c0
  · rw[h.row.cellAt _ (by omega)];exact c1
  · rw[h.row.cellAt _ (by omega)];exact c2
theorem index_calls (v:Value)(fs:List Fr)(b:Nat)(n:Int)(w:World)(hf:FrsM w v fs)(hc:w.cell? ⟨b,0,none⟩=some (.int .i64 n)) :
    Calls Tryz.prog 144 #[v,.func (.func 145) #[] #[.pointer (some ⟨b,0,none⟩)]] w fun e w'=>e = .returned (.int .i64 (idxOf fs n))∧Below w.heap.size w w':=by
  obtain⟨A,cap,rfl,_⟩:=ow_slice hf.row
  obtain⟨l,hl⟩ : ∃l,fs.length=l:=⟨_,rfl⟩
  have HL:=Aside0.mk hl
  have HF:=Aside0.mk hf
  have HC:=Aside0.mk hc
  have hl8:l≤8:=by rw[←hl];exact hf.few
  rw[hl]
  clear hf hc hl
  go_enter Tryz.func144,Tryz.ntmps144
  go_wp2_with fail
  go_loopg [8] (l+1) (fun kq v8 w' => ∃i:Int,v8 = .int .i64 i∧Aside0 (0≤i∧i≤l∧(kq:Int)=l+1 - i)∧Aside0 (∀(j:Nat) (g:Fr),(j:Int)<i→fs[j]? = some g→g.n≠n)∧Aside0 (Below w.heap.size w w'))
  case atStart=>exact⟨0,rfl,⟨by omega,by omega,by omega⟩,⟨fun j g h=>by omega⟩,⟨Below.refl _ _⟩⟩
  case round=>
    obtain⟨i,rfl,HI,HJ,HB⟩:=hrel
    have hi0:0≤i:=HI.out.1
    by_cases hlt:i<l
    · obtain⟨f,hf⟩ : ∃f,fs[i.toNat]? = some f:=⟨_,List.getElem?_eq_getElem (by have:=HL.out;omega)⟩
      obtain⟨g,rfl,hll,hd0,hd1,hd2,A',c',hfv⟩:=(HF.out.below HB.out).at hf
      obtain⟨fn,fl,fv,fe⟩:=f
      simp only at hd0 hd1 hd2 hfv
      subst hfv
      have HFI:=Aside0.mk hf
      clear hf hll
      go_wp2_with fail
      refine (clos_calls b n fn fl _ _ _ _ rfl _ (pw_cell_below HB.out HC.out)).mono ?_
      rintro e w1 ⟨rfl,hb⟩
      replace HB:=Aside0.mk (below_step HB.out hb)
      clear hb
      by_cases hn:fn=n
      · have hbt:(fn == n)=true:=by simpa using hn
        have HR:=Aside0.mk (show idxOf fs n=i by unfold idxOf;rw[idxFrom_hit n fs 0 i.toNat _ (fun j g hj hg=>HJ.out j g (by omega) hg) HFI.out hn];omega)
        clear hn
        go_wp2_with fail
        go_ret
        exact⟨by simp[HR.out],HB.out⟩
      · have hbt:(fn == n)=false:=by simpa using hn
        have HN:=Aside0.mk hn
        clear hn
        go_wp2_with fail
        go_roundg (gk - 1)
        case measure=>have:=HI.out;omega
        case rel=>
          refine⟨i+1,rfl,⟨by omega,by omega,by have:=HI.out;omega⟩,⟨fun j g hj hg => ?_⟩,HB⟩
          rcases (show (j:Int)<i∨j=i.toNat by omega) with h | h
          · exact HJ.out j g h hg
          · subst h
            rw[HFI.out] at hg
            injection hg with hg
            subst hg
            exact HN.out
    · have HR:=Aside0.mk (show idxOf fs n = -1 by
        unfold idxOf
        rw[idxFrom_none n fs 0 fun f hf=>by
          obtain⟨j,hj,he⟩:=List.getElem_of_mem hf
          exact HJ.out j f (by have:=HI.out;have:=HL.out;omega) (by rw[List.getElem?_eq_getElem hj,he])])
      go_wp2_with fail
      go_ret
      exact⟨by simp[HR.out],HB.out⟩
theorem at_pool (p:Nat)(v:Value)(fs:List Fr)(n:Int)(w:World)(hf:FrsM w v fs)(hc:w.cell? ⟨p,4,none⟩=some v) :
    Calls Tryz.prog 90 #[.pointer (some ⟨p,0,none⟩),.int .i64 n] w fun e w'=>e = .returned (.int .i64 (idxOf fs n))∧Below w.heap.size w w':=by
  obtain⟨A,cap,hv,_⟩:=ow_slice hf.row
  have HF:=Aside0.mk hf
  have hlt:p<w.heap.size:=World.block_lt_of_cell? _ _ hc
  clear hf
  go_enter Tryz.func90,Tryz.ntmps90
  go_wp2_with fail
  subst hv
  refine (index_calls _ fs w.heap.size n _ (by exact HF.out.below (below_alloc (Below.refl _ _) _)) (by simp)).mono ?_
  rintro e w1 ⟨rfl,hb⟩
  have HB:=Aside0.mk (below_step (below_alloc (Below.refl w.heap.size w) (.cells #[.int .i64 n] 3)) hb)
  clear hb
  go_wp2_with fail
  go_ret
  exact⟨by simp,HB.out⟩
theorem own_calls (lsn:Int)(v:Value)(es:List (Int×Int))(w:World)(hp:P2 w 169 v es) :
    Calls Tryz.prog 91 #[.agg #[.int .i64 lsn,v]] w fun e w' => ∃v',e = .returned (.agg #[.int .i64 lsn,v'])∧P2 w' 169 v' es∧Below w.heap.size w w':=by
  obtain⟨A,cap,hv,_⟩:=ow_slice hp.1
  have HP:=Aside0.mk hp
  clear hp
  go_enter Tryz.func91,Tryz.ntmps91
  go_wp2_with fail
  subst hv
  go_region_held3 (fun w'=>w'.cell? ⟨w.heap.size,0,none⟩=some (.int .i64 lsn)∧w'.cell? ⟨w.heap.size,1,none⟩=some (.slice A es.length cap))
    (refine⟨?_,?_⟩<;>(first | go_keep | exact hk0 | exact hk1 | (rw[World.cell?_setCell_other _ _ _ _ (by simp),World.cell?_setCell_other _ _ _ _ (by simp)];first | exact hk0 | exact hk1)))
    (first | (go_at_call 146;refine (clone_entries _ es.length (cells2 es) _ (P2.rd (P2.below HP.out (by repeat (first | exact Below.refl _ _ | apply below_drew1 | apply below_alloc)))) (cells2_one es)).mono ?_;rintro e w1 ⟨v1,rfl,ho,hb⟩;obtain⟨A',c',rfl,_⟩:=ow_slice ho;have hk0:w1.cell? ⟨w.heap.size,0,none⟩=some (.int .i64 lsn):=pw_cell_below hb (by simp);have hk1:w1.cell? ⟨w.heap.size,1,none⟩=some (.slice A es.length cap):=pw_cell_below hb (by simp);have he0:w1.cell? ⟨w.heap.size+1,0,none⟩=some (.int .i64 0):=pw_cell_below hb (by simp);have he1:w1.cell? ⟨w.heap.size+1,1,none⟩=some (.slice none 0 0):=pw_cell_below hb (by simp);have hf0:w1.frozen? ⟨w.heap.size+1,0,none⟩=false:=(hb.frozen (p:=⟨w.heap.size+1,0,none⟩) (by simp)).trans (by simp);have hf1:w1.frozen? ⟨w.heap.size+1,1,none⟩=false:=(hb.frozen (p:=⟨w.heap.size+1,1,none⟩) (by simp)).trans (by simp)))
  have HO:=Aside0.mk ho
  have HB:=Aside0.mk (below_step (by repeat (first | exact Below.refl w.heap.size w | apply below_drew1 | apply below_alloc)) hb)
  have hsz:w.heap.size+2≤w1.heap.size:=by have:=hb.size;simp at this;omega
  clear ho hb hk0 hk1
  go_wp2_with fail
  exact bodyPost_ret (v:=.agg #[.int .i64 lsn,.slice A' es.length c']) (by simp[results,Tryz.results91,go_sem,he0,he1,hf0,hf1]) rfl ⟨.slice A' es.length c',rfl,⟨ow_move (ow_base HO.out (Nat.zero_le _)) (fun k hk=>by
    have hk2:w.heap.size+2≤k:=by have:=(ow_block HO.out hk).1;simp at this;omega
    rw[Below.heap_setCell _ _ _ _ (by show k≠w.heap.size+1;omega),Below.heap_setCell _ _ _ _ (by show k≠w.heap.size+1;omega)]),HP.out.2⟩,(HB.out.setCell (by show w.heap.size≤w.heap.size+1;omega) _).setCell (by show w.heap.size≤w.heap.size+1;omega) _⟩
end Go.Proofs.YtaplpeoikebedaaGreatDoor.Pool1
namespace Go.Proofs.YtaplpeoikebedaaGreatDoor.Pool2
open Go.RowKit YtaplpeoikebedaaGreatDoorW.PrintWords YtaplpeoikebedaaGreatDoorW.PrintLast YtaplpeoikebedaaGreatDoorW.PrintMore
open See Mem Clone Go.Proofs.YtaplpeoikebedaaGreatDoor.Cell Page PageB PageR Disk DiskN Pool1
attribute [local go_sem] max2_imax min2_imin max_two min_two
theorem info_int:(Tryz.prog.info? 3).map (fun i=>(i.zero,i.size,i.bytes))=some (some (.int .i64 0),1,8):=by kernel_rfl
def IS (w:World)(base:Nat)(v:Value)(xs:List Int):Prop:=w.ownsRow base 3 1 v xs.length (xs.map (.int .i64))
theorem IS.nil (w:World)(b:Nat):IS w b (.slice none 0 0) []:=World.ownsRow_nil _ _ _ _
theorem IS.below {w w':World}{b:Nat}{v:Value}{xs:List Int}(h:IS w b v xs)(hb:Below w.heap.size w w'):IS w' b v xs:=ow_below h hb
theorem one_int (x:Int) : ∀u∈[Value.int .i64 x],u.oneCell'=true:=by
  intro u hu;simp at hu;subst hu;rfl
end Go.Proofs.YtaplpeoikebedaaGreatDoor.Pool2
namespace Go.Proofs.YtaplpeoikebedaaGreatDoor.Pool3
open Go.RowKit YtaplpeoikebedaaGreatDoorW.PrintWords YtaplpeoikebedaaGreatDoorW.PrintLast YtaplpeoikebedaaGreatDoorW.PrintMore
open See Mem Clone Go.Proofs.YtaplpeoikebedaaGreatDoor.Cell Page PageB PageR Disk DiskN Pool1 Pool2
attribute [local go_sem] max2_imax min2_imin max_two min_two
def logCells (d:Nat)(first blocks base epoch:Int)(l:Value)(done:Int):Array Value:=
  #[.pointer (some ⟨d, 0, none⟩), .int .i64 first, .int .i64 blocks, .int .i64 base, .int .i64 epoch, l, .int .i64 done]
def poolCells (t:Value)(d l:Nat)(frames:Int)(h:Value):Array Value:=
  #[t, .pointer (some ⟨d, 0, none⟩), .pointer (some ⟨l, 0, none⟩), .int .i64 frames, h]
theorem new_log (d:Nat)(f b ba ep:Int)(w:World) :
    Calls Tryz.prog 56 #[.pointer (some ⟨d,0,none⟩),.int .i64 f,.int .i64 b,.int .i64 ba,.int .i64 ep] w fun e w'=>e = .returned (.pointer (some ⟨w.heap.size,0,none⟩))∧w'=w.alloc (.cells (logCells d f b ba ep (.slice none 0 0) 0) 121):=by
  go_enter Tryz.func56,Tryz.ntmps56
  go_wp2
  go_ret
  exact⟨by simp,rfl⟩
theorem new_pool (d l:Nat)(n:Int)(w:World) :
    Calls Tryz.prog 57 #[.pointer (some ⟨d,0,none⟩),.pointer (some ⟨l,0,none⟩),.int .i64 n] w fun e w'=>e = .returned (.pointer (some ⟨w.heap.size,0,none⟩))∧w'=w.alloc (.cells (poolCells (.slice none 0 0) d l (imin (imax n 1) 8) (.slice none 0 0)) 163):=by
  go_enter Tryz.func57,Tryz.ntmps57
  go_wp2
  go_ret
  exact⟨by simp,rfl⟩
end Go.Proofs.YtaplpeoikebedaaGreatDoor.Pool3
