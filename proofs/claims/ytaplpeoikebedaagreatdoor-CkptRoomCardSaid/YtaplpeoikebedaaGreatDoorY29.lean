/- Joined texts: FwdT, FwdE, FwdN, RoomD. No condition but what each says. -/
import Derived.Test.YtaplpeoikebedaaGreatDoorY26
import Derived.Test.YtaplpeoikebedaaGreatDoorY27
import Derived.Test.YtaplpeoikebedaaGreatDoorY28
import Derived.Test.YtaplpeoikebedaaGreatDoorY17
import Derived.Deep.DeepCutAuto
import Derived.BigQuiet
import Derived.Deep.RegionLaw
import Derived.Test.YtaplpeoikebedaaGreatDoorY18
import Derived.Maps.Views
set_option maxHeartbeats 8000000
set_option maxRecDepth 100000
set_option linter.unusedVariables false
set_option linter.unusedSimpArgs false
namespace Go.Proofs.YtaplpeoikebedaaGreatDoor.FwdT
open Go.RowKit Go.Maps YtaplpeoikebedaaGreatDoorW.PrintWords YtaplpeoikebedaaGreatDoorW.PrintLast YtaplpeoikebedaaGreatDoorW.PrintMore
open See Mem Page Disk DiskN DiskW RecD Dirty Wal WalF SysD SysM PoolG Pager StoreD PageM StoreF StoreI StoreJ TransT LockT LockU SpaceT WaitT FwdM FwdP FwdC PageO
attribute [local go_sem] max2_imax min2_imin max_two min_two
theorem place_at (key P q:Int)(h0:0≤key)(h1:key<1048576)(h2:1≤P)(h3:P≤1000)(hq:placeOf key P=q)(w:World) :
    Calls Tryz.prog 125 #[.int .i64 key,.int .i64 P] w fun e w'=>e = .returned (.int .i64 q)∧w=w':=by
  subst hq;exact place_calls key P h0 h1 h2 h3 w
theorem neq_nil (x:Addr)(w:World):(binOp .neq 37 .nilIface (.iface 333 (.pointer (some x)))).run Tryz.prog w = .ok (.bool true) w:=by kernel_rfl
def pgPut (w:World)(b:Nat)(l:Int)(v:Value):World:=(w.setCell ⟨b,0,none⟩ (.int .i64 l)).setCell ⟨b,1,none⟩ v
theorem pgPut_heap {w:World}{b:Nat}{x0 x1:Value}(h:w.heap[b]? = some (.cells #[x0,x1] 74 (0,0)))(l:Int)(v:Value):(pgPut w b l v).heap[b]? = some (.cells #[.int .i64 l,v] 74 (0,0)):=by
  have h0:=heap_setCell_same w b 0 _ _ (.int .i64 l) h
  have h1:=heap_setCell_same _ b 1 _ _ v h0
  have e:(((#[x0,x1]:Array Value).setIfInBounds 0 (.int .i64 l)).setIfInBounds 1 v) = #[.int .i64 l,v]:=by simp
  rw[e] at h1
  exact h1
theorem pgPut_other {w:World}{b k:Nat}(h:k≠b)(l:Int)(v:Value):(pgPut w b l v).heap[k]? = w.heap[k]? := by
  unfold pgPut
  rw[Below.heap_setCell _ _ _ _ h,Below.heap_setCell _ _ _ _ h]
theorem pgPut_below {B:Nat}{w w1:World}{b:Nat}(h:Below B w w1)(hb:B≤b)(l:Int)(v:Value):Below B w (pgPut w1 b l v):=(h.setCell hb _).setCell hb _
theorem pg_cells {w:World}{b:Nat}{x0 x1:Value}(h:w.heap[b]? = some (.cells #[x0,x1] 74 (0,0))) :
    w.frozen? ⟨b,0,none⟩=false∧w.frozen? ⟨b,1,none⟩=false∧w.cell? ⟨b,0,none⟩=some x0∧w.cell? ⟨b,1,none⟩=some x1:=by
  refine⟨?_,?_,?_,?_⟩<;>simp[World.frozen?,World.cell?,h]
theorem FwM.but {R:Nat→Prop}{w w':World}{sp lp pp dp qp mp:Nat}{blocks frames:Int}{F:FS}(h:FwM R w sp lp pp dp qp mp blocks frames F){b:Nat}(hb : ∀k,k≠b→w'.heap[k]? = w.heap[k]?)(hn : ¬R b)(ht:tag w b∉dTags∧tag w b≠169):FwM R w' sp lp pp dp qp mp blocks frames F:=
  FwM.out h fun k hk hh=>hb k fun e=>by
    subst e
    rcases hh with hh | hh | hh
    · exact hn hh
    · exact ht.1 hh
    · exact ht.2 hh
theorem p2_but {w w':World}{v:Value}{es:List (Int×Int)}(h:P2 w 169 v es){b:Nat}(hb : ∀k,k≠b→w'.heap[k]? = w.heap[k]?)(ht:tag w b≠169):P2 w' 169 v es:=
  ⟨ow_move h.1 fun k hk=>hb k fun e=>by
    subst e
    obtain⟨_,c,hc⟩:=ow_block h.1 hk
    exact ht (tag_of hc),h.2⟩
theorem Kp.then {M:Nat→Prop}{w w1 w2:World}(h:Kp M w w1)(k:Below w.heap.size w1 w2):Kp M w w2:=
  ⟨k.os.trans h.os,k.tape.trans h.tape,k.output.trans h.output,Nat.le_trans h.size k.size,fun i hi hn=>(k.block i hi).trans (h.block i hi hn),fun i hi ht=>(k.block i hi).trans (h.ent i hi ht)⟩
def z2p:Obj:=.cells #[.int .i64 0,.slice none 0 0] 74
def TakesPost (M:Nat→Prop)(sp lp pp dp qp mp:Nat)(blocks frames:Int)(F:FS)(n key hint:Int)(w:World)(e:Ending)(w':World):Prop:=
  ∃sl,e = .returned (.tuple #[txV (tget F.ts (F.of n)),.agg #[.int .i64 (cur F.S (placeOf key F.P)).1,sl],.nilIface])∧P2 w' 169 sl (cur F.S (placeOf key F.P)).2∧FwPost M sp lp pp dp qp mp blocks frames (takesF F n key 2 hint) w w'
structure TB (M:Nat→Prop) (sp lp pp dp qp mp:Nat) (blocks frames:Int) (F:FS) (es:List (Int×Int)) (w:World) (bx:Nat) (X:Obj) (R:Nat→Prop) (sl:Value) (w3:World):Prop where
  p:P2 w3 169 sl es
  f:FwM R w3 sp lp pp dp qp mp blocks frames F
  r : ∀k,R k→Gr M w w3 k
  n0 : ¬R w.heap.size
  n1 : ¬R (w.heap.size+1)
  k:Kp M w w3
  b0:w3.heap[w.heap.size]? = some z4
  b1:w3.heap[w.heap.size+1]? = some z2p
  bx:w3.heap[bx]? = some X
section
variable {M:Nat→Prop}{sp lp pp dp qp mp:Nat}{blocks frames:Int}{F F2:FS}{es:List (Int×Int)}{w:World}{bx:Nat}{X:Obj}{R:Nat→Prop}{sl:Value}{w3 w4:World}
theorem TB.below (h:TB M sp lp pp dp qp mp blocks frames F es w bx X R sl w3)(hb:Below w3.heap.size w3 w4):TB M sp lp pp dp qp mp blocks frames F es w bx X R sl w4:=
  ⟨h.p.below hb,h.f.below hb,fun k hk=>Gr.grow hb.size (h.r k hk),h.n0,h.n1,h.k.step hb,(hb.block _ (heap_lt h.b0)).trans h.b0,(hb.block _ (heap_lt h.b1)).trans h.b1,(hb.block _ (heap_lt h.bx)).trans h.bx⟩
theorem TB.pg (h:TB M sp lp pp dp qp mp blocks frames F es w bx X R sl w3){b:Nat}{x0 x1:Value}(hb:w3.heap[b]? = some (.cells #[x0,x1] 74 (0,0)))(hn : ¬R b)(hw:w.heap.size≤b)(h0:b≠w.heap.size)(h1:b≠w.heap.size+1)(h2:b≠bx)(l:Int)(v:Value) :
    TB M sp lp pp dp qp mp blocks frames F es w bx X R sl (pgPut w3 b l v):=by
  have ht:tag w3 b∉dTags∧tag w3 b≠169:=by rw[tag_of hb];decide
  have ho : ∀k,k≠b→(pgPut w3 b l v).heap[k]? = w3.heap[k]? := fun k hk=>pgPut_other hk l v
  have hsz:(pgPut w3 b l v).heap.size=w3.heap.size:=by unfold pgPut;simp[World.setCell]
  refine⟨p2_but h.p ho ht.2,FwM.but h.f ho hn ht,fun k hk=>Gr.grow (Nat.le_of_eq hsz.symm) (h.r k hk),h.n0,h.n1,Kp.then h.k (pgPut_below (Below.refl _ _) hw l v),(ho _ h0.symm).trans h.b0,(ho _ h1.symm).trans h.b1,(ho _ h2.symm).trans h.bx⟩
structure TE (M:Nat→Prop) (sp lp pp dp qp mp:Nat) (blocks frames:Int) (F:FS) (es:List (Int×Int)) (w:World) (x:Tx) (l:Int) (sl:Value) (w3:World):Prop where
  p:P2 w3 169 sl es
  f:FwPost M sp lp pp dp qp mp blocks frames F w w3
  b0:w3.heap[w.heap.size]? = some (.cells #[.int .i64 x.id,.int .i64 x.state,.int .i64 x.last,.int .i64 x.next] 102 (0,0))
  b1:w3.heap[w.heap.size+1]? = some (.cells #[.int .i64 l,sl] 74 (0,0))
theorem TB.fin1 (h:TB M sp lp pp dp qp mp blocks frames F es w bx X R sl w3)(x:Tx)(l:Int):TE M sp lp pp dp qp mp blocks frames F es w x l sl (pgPut (txPut w3 w.heap.size x) (w.heap.size+1) l sl):=by
  have o1 : ∀k,k≠w.heap.size→(txPut w3 w.heap.size x).heap[k]? = w3.heap[k]? := fun k hk=>txPut_other hk x
  have t1:tag w3 w.heap.size∉dTags∧tag w3 w.heap.size≠169:=by rw[show tag w3 w.heap.size=102 from tag_of h.b0];decide
  have q1:(txPut w3 w.heap.size x).heap[w.heap.size+1]? = some z2p:=(o1 _ (by omega)).trans h.b1
  have t2:tag (txPut w3 w.heap.size x) (w.heap.size+1)∉dTags∧tag (txPut w3 w.heap.size x) (w.heap.size+1)≠169:=by rw[show tag (txPut w3 w.heap.size x) (w.heap.size+1)=74 from tag_of q1];decide
  have o2 : ∀k,k≠w.heap.size+1→(pgPut (txPut w3 w.heap.size x) (w.heap.size+1) l sl).heap[k]? = (txPut w3 w.heap.size x).heap[k]? := fun k hk=>pgPut_other hk l sl
  have hsz:(pgPut (txPut w3 w.heap.size x) (w.heap.size+1) l sl).heap.size=w3.heap.size:=by unfold pgPut txPut;simp[World.setCell]
  have p1:=txPut_heap h.b0 x
  exact⟨p2_but (p2_but h.p o1 t1.2) o2 t2.2,⟨FwM.mono (FwM.but (FwM.but h.f o1 h.n0 t1) o2 h.n1 t2) fun k hk=>Gr.grow (Nat.le_of_eq hsz.symm) (h.r k hk),Kp.then h.k (pgPut_below (txPut_below (Below.refl _ _) (Nat.le_refl _) x) (by omega) l sl)⟩,(o2 _ (by omega)).trans p1,pgPut_heap q1 l sl⟩
theorem TE.below {x:Tx}{l:Int}(h:TE M sp lp pp dp qp mp blocks frames F es w x l sl w3)(hb:Below w3.heap.size w3 w4):TE M sp lp pp dp qp mp blocks frames F es w x l sl w4:=
  ⟨h.p.below hb,h.f.step hb,(hb.block _ (heap_lt h.b0)).trans h.b0,(hb.block _ (heap_lt h.b1)).trans h.b1⟩
end
def GetIn (M:Nat→Prop)(sp lp pp dp qp mp:Nat)(blocks frames:Int)(F:FS)(l0:Int)(es:List (Int×Int))(w:World)(bx:Nat)(X:Obj)(R2:Nat→Prop)(V:World)(e:Ending)(w3:World):Prop:=
  ∃sl,e = .returned (.tuple #[.agg #[.int .i64 l0,sl],.nilIface])∧TB M sp lp pp dp qp mp blocks frames F es w bx X (Gr R2 V w3) sl w3∧Kp R2 V w3
theorem getin {M:Nat→Prop}{sp lp pp dp qp mp:Nat}{blocks frames:Int}{F:FS}{l0:Int}{es:List (Int×Int)}{w:World}{bx:Nat}{X:Obj}{W1 w2 V w3:World}{sl:Value}(hp:P2 w3 169 sl es)
    (hpost:FwPost (Gr (Cut M w.heap.size) W1 w2) sp lp pp dp qp mp blocks frames F V w3) (h1:Below w.heap.size w W1) (h2:Kp (Cut M w.heap.size) W1 w2) (h3:Below w2.heap.size w2 V)
    (b0:W1.heap[w.heap.size]? = some z4) (b1:W1.heap[w.heap.size+1]? = some z2p) (hx:W1.heap[bx]? = some X) (hbx:w.heap.size≤bx) :
    GetIn M sp lp pp dp qp mp blocks frames F l0 es w bx X (Gr (Cut M w.heap.size) W1 w2) V (.returned (.tuple #[.agg #[.int .i64 l0,sl],.nilIface])) w3:=by
  obtain⟨f,k⟩:=hpost
  have hnc : ∀j,w.heap.size≤j→j<W1.heap.size→¬Gr (Cut M w.heap.size) W1 w2 j:=fun j hj hj2 hc=>by
    rcases hc with hc | ⟨c1,c2⟩
    · have:=hc.2;omega
    · omega
  have s1:=h1.size
  have s2:=h2.size
  have s3:=h3.size
  have s4:=k.size
  have l0':=heap_lt b0
  have l1':=heap_lt b1
  have lx:=heap_lt hx
  have keep : ∀{j:Nat} {o:Obj},W1.heap[j]? = some o→w.heap.size≤j→w3.heap[j]? = some o:=fun {j o} ho hj=>by
    have hl:=heap_lt ho
    have e2:=h2.at ho (fun hc=>by have:=hc.2;omega)
    have e3:=(h3.block _ (heap_lt e2)).trans e2
    exact k.at e3 (hnc _ hj hl)
  have hng : ∀j,w.heap.size≤j→j<W1.heap.size→¬Gr (Gr (Cut M w.heap.size) W1 w2) V w3 j:=fun j hj hj2 hc=>by
    rcases hc with hc | ⟨c1,c2⟩
    · exact hnc j hj hj2 hc
    · omega
  refine⟨sl,rfl,⟨hp,f,fun j hj => ?_,hng _ (Nat.le_refl _) l0',hng _ (by omega) l1',?_,keep b0 (Nat.le_refl _),keep b1 (by omega),keep hx hbx⟩,k⟩
  · rcases hj with (hj | ⟨c1,c2⟩) | ⟨c1,c2⟩
    · exact .inl hj.1
    · exact .inr ⟨by omega,by omega⟩
    · exact .inr ⟨by omega,c2⟩
  · have k1:Kp M w W1:=.of_below h1
    have k2:Kp M w w2:=k1.trans (h2.wide fun j hj=>hj.1)
    have k3:=k2.step h3
    refine⟨k.os.trans k3.os,k.tape.trans k3.tape,k.output.trans k3.output,Nat.le_trans k3.size k.size,fun j hj hn => ?_,fun j hj ht => ?_⟩
    · refine (k.block j (by omega) fun hc => ?_).trans (k3.block j hj hn)
      rcases hc with hc | ⟨c1,_⟩
      · exact hn hc.1
      · omega
    · have e:=k3.ent j hj ht
      exact (k.ent j (by omega) (by rw[tag_eq e];exact ht)).trans e
theorem takes_calls (a:Nat→Addr)(M:Nat→Prop)(sp lp pp dp qp mp:Nat)(blocks frames:Int)(F:FS)(n key hint:Int)(N m:Nat)(ch:Int→List Int)(kp:Int→Int)(own:Int→Int)(w:World)(h:FwM M w sp lp pp dp qp mp blocks frames F)(hok:FOk N m ch kp F)(hk:KOk own F.ks)(he:own key=n)(hs:SentsAll w a)(hO:OutAll M a)(h0:0≤n)(h1:n<F.sess)(h2:F.sess≤1000)
    (hx:thas F.ts (F.of n)=true) (hk0:0≤key) (hk1:key<1048576) (hl:F.ks.length≤80000) (hm:m≤30000) (hh0 : -9223372036854775808≤hint) (hh1:hint≤9223372036854775807) :
    Calls Tryz.prog 69 #[.pointer (some ⟨sp,0,none⟩),.int .i64 n,.int .i64 key,.int .i64 2,.int .i64 hint] w (TakesPost M sp lp pp dp qp mp blocks frames F n key hint w):=by
  have HF:=Aside0.mk (FwM.cut h)
  have HC:=Aside0.mk (fun (W:World) (hb:Below w.heap.size w W)=>called_calls _ sp lp pp dp qp mp blocks frames F n W (h.below hb) h0 h1 h2 hx hok.t.rise)
  have HS:=Aside0.mk hs
  have HO:=Aside0.mk hO
  have HOK:=Aside0.mk hok
  have HK:=Aside0.mk hk
  have HE:=Aside0.mk he
  have HL:=Aside0.mk hl
  have HM:=Aside0.mk hm
  have HHB:=Aside0.mk (And.intro hh0 hh1)
  have q0:decide (key<0)=false:=decide_eq_false (by omega)
  have q1:decide (1048576≤key)=false:=decide_eq_false (by omega)
  have hspl:sp<w.heap.size:=by obtain⟨kv,tv,b1,_⟩:=h.box;exact heap_lt b1
  obtain⟨x,hxx⟩ : ∃x,tget F.ts (F.of n)=x:=⟨_,rfl⟩
  have HXX:=Aside0.mk hxx
  rw[hxx] at HC
  obtain⟨xi,xs,xl,xn⟩:=x
  clear h hok hk he hs hO hl hm hx hxx h0 h1 h2 hh0 hh1
  go_enter Tryz.func69,Tryz.ntmps69
  go_wp2_with fail
  refine (HC.out _ (by repeat (first | exact Below.refl _ _ | apply below_drew1 | apply below_alloc))).mono ?_
  rintro e w1 ⟨rfl,hb⟩
  obtain⟨W,hW⟩ : ∃W,(w.alloc z4).alloc z2p=W:=⟨_,rfl⟩
  have hz0:W.heap[w.heap.size]? = some z4:=by rw[←hW];exact (Below.heap_alloc _ _ _ (by show _<(w.heap.push _).size;rw[Array.size_push];omega)).trans (heap_alloc_new w _)
  have hz1:W.heap[w.heap.size+1]? = some z2p:=by
    rw[←hW];have:=heap_alloc_new (w.alloc z4) z2p;rw[show (w.alloc z4).heap.size=w.heap.size+1 from by show (w.heap.push _).size=_;rw[Array.size_push]] at this;exact this
  have hsW:W.heap.size=w.heap.size+2:=by rw[←hW];show ((w.heap.push _).push _).size=_;rw[Array.size_push,Array.size_push]
  rw[show (w.alloc (.cells #[.int .i64 0,.int .i64 0,.int .i64 0,.int .i64 0] 102)).alloc (.cells #[.int .i64 0,.slice none 0 0] 74)=W from hW] at hb
  have hB0:Below w.heap.size w W:=by rw[←hW];repeat (first | exact Below.refl _ _ | apply below_drew1 | apply below_alloc)
  have hB:=below_step hB0 hb
  have HQ0:=Aside0.mk ((hb.block _ (heap_lt hz0)).trans hz0)
  have HQ1:=Aside0.mk ((hb.block _ (heap_lt hz1)).trans hz1)
  have hs1:w.heap.size+2≤w1.heap.size:=by have:=hb.size;omega
  obtain⟨bx,hbx⟩ : ∃bx,w1.heap.size=bx:=⟨_,rfl⟩
  obtain⟨W1,hW1⟩ : ∃W1,w1.alloc (.cells #[.int .i64 xi,.int .i64 xs,.int .i64 xl,.int .i64 xn] 102)=W1:=⟨_,rfl⟩
  have hBW:Below w.heap.size w W1:=by rw[←hW1];exact below_alloc hB _
  have hg1:W1.cell? ⟨6,0,none⟩=some (.iface 333 (.pointer (some (a 1)))):=(HS.out.below hBW).cell 1 (by decide)
  have HXB:=Aside0.mk (show W1.heap[bx]? = some (.cells #[.int .i64 xi,.int .i64 xs,.int .i64 xl,.int .i64 xn] 102 (0,0)) from by rw[←hW1,←hbx];exact heap_alloc_new _ _)
  have hsW1:W1.heap.size=bx+1:=by rw[←hW1,←hbx];show (w1.heap.push _).size=_;rw[Array.size_push]
  have HQ0':=Aside0.mk (show W1.heap[w.heap.size]? = some z4 from by rw[←hW1];exact (Below.heap_alloc _ _ _ (by omega)).trans HQ0.out)
  have HQ1':=Aside0.mk (show W1.heap[w.heap.size+1]? = some z2p from by rw[←hW1];exact (Below.heap_alloc _ _ _ (by omega)).trans HQ1.out)
  have HFW:=Aside0.mk (HF.out.below hBW)
  have HBW:=Aside0.mk hBW
  have HWE:=Aside0.mk hW1
  have HBX:=Aside0.mk hbx
  obtain⟨c0,_,_,_,_,_,_,_⟩:=HFW.out.cells
  have hspW:sp<W1.heap.size:=by omega
  have he:=neq_nil (a 1) W1
  simp only[txV,z4,z2p] at *
  clear hb hB hB0 hW hW1 hBW hz0 hz1 hsW hbx
  go_upto_region 2 with fail
  rw[show w1.alloc (.cells #[.int .i64 xi,.int .i64 xs,.int .i64 xl,.int .i64 xn] 102)=W1 from HWE.out]
  go_upto_region 6 with fail
  obtain⟨cs,kv,hlk,hput⟩:=FwM.lks HFW.out
  have HLK:=Aside0.mk hlk
  have HPUT:=Aside0.mk hput
  clear hlk hput
  go_wp2_with fail
  refine (take_calls _ sp 6 118 cs kv F.ks n key 2 _ HLK.out (.inr rfl) (HK.out.who HE.out 2) (by have:=HL.out;omega)).mono ?_
  rintro e w2 ⟨rfl,hpost⟩
  have HP2:=Aside0.mk (HPUT.out _ _ hpost)
  clear hpost HLK HPUT
  have k0:w2.cell? ⟨sp,0,none⟩=some (.int .i64 F.P):=HP2.out.1.cells.1
  have k5:=HP2.out.1.cells.2.2.2.1
  have HS1:=Aside0.mk (HS.out.below HBW.out)
  have HOC:=Aside0.mk (OutAll.sub (M':=Cut M w.heap.size) HO.out fun k hk=>hk.1)
  have HS2:=Aside0.mk (SentsAll.kp HS1.out HP2.out.2 HOC.out)
  have HOG:=Aside0.mk (OutAll.gr (w':=w2) HOC.out HS1.out)
  have hnc : ∀k,w.heap.size≤k→¬Cut M w.heap.size k:=fun k hk hc=>by have:=hc.2;omega
  have hsW2:W1.heap.size≤w2.heap.size:=HP2.out.2.size
  have hsp2:sp<w2.heap.size:=by omega
  have hsB:w.heap.size≤bx:=by have:=HBX.out;omega
  have HT0:=Aside0.mk (fun (V:World) (hb:Below w2.heap.size w2 V)=>by
    obtain⟨p1,p2⟩:=placeOf_in key HOK.out.g.pg.pages
    obtain⟨t1,_⟩:=takes_ok HOK.out HK.out HE.out ⟨hk0,hk1⟩ hint
    have hg:=get_pool a _ pp lp dp F.S (placeOf key F.P) hint V ((HS2.out.below hb).k _ (by decide)) (HOG.out.k _ (by decide)) (HP2.out.1.below hb).sys (HOK.out.g.loose.mono (by have:=HM.out;omega)) HHB.out.1 HHB.out.2
    exact hg.mono fun e w3=>by
      rintro⟨sl,ev,rfl,hp,hv,hx,hf⟩
      rw[t1] at hp hv hx ⊢
      have hev:ev = .nilIface:=hv
      subst hev
      have hpost:=FwM.sy (HP2.out.1.below hb) hx hf
      exact (getin (X:=.cells #[.int .i64 xi,.int .i64 xs,.int .i64 xl,.int .i64 xn] 102 (0,0)) (bx:=bx) hp hpost HBW.out HP2.out.2 hb HQ0'.out HQ1'.out HXB.out hsB))
  obtain⟨pk,hpk⟩ : ∃pk,placeOf key F.P=pk:=⟨_,rfl⟩
  obtain⟨P,hP⟩ : ∃P,F.P=P:=⟨_,rfl⟩
  have HPK:=Aside0.mk (show placeOf key P=pk by rw[←hP];exact hpk)
  have HPB:=Aside0.mk (show 1≤P∧P≤1000 by rw[←hP];have:=HOK.out.g.pg.pages;have:=HOK.out.g.p32;omega)
  obtain⟨l0,hl0⟩ : ∃l0,(cur F.S (placeOf key F.P)).1=l0:=⟨_,rfl⟩
  obtain⟨es,hes⟩ : ∃es,(cur F.S (placeOf key F.P)).2=es:=⟨_,rfl⟩
  rw[hl0,hes,hpk] at HT0
  rw[hP] at k0
  have HLE:=Aside0.mk (And.intro hl0 hes)
  have HT1:=Aside0.mk (fun (V:World) (hb:Below w2.heap.size w2 V) (b:Nat) (o:Obj) (hx:V.heap[b]? = some o) (hb1:w2.heap.size≤b)=>(HT0.out V hb).mono (fun e w3 (h:GetIn M sp lp pp dp qp mp blocks frames (takesF F n key 2 hint) l0 es w bx (.cells #[.int .i64 xi,.int .i64 xs,.int .i64 xl,.int .i64 xn] 102 (0,0)) (Gr (Cut M w.heap.size) W1 w2) V e w3)=>(⟨h,by
    obtain⟨sl,_,_,hk⟩:=h
    refine hk.at hx fun hc => ?_
    rcases hc with hc | ⟨c1,c2⟩
    · have:=hc.2;omega
    · omega⟩:GetIn M sp lp pp dp qp mp blocks frames (takesF F n key 2 hint) l0 es w bx (.cells #[.int .i64 xi,.int .i64 xs,.int .i64 xl,.int .i64 xn] 102 (0,0)) (Gr (Cut M w.heap.size) W1 w2) V e w3∧w3.heap[b]? = some o)))
  clear hpk hP hl0 hes
  have HNG:=fun (V w3:World) (hv:w2.heap.size<V.heap.size) (hc:Gr (Gr (Cut M w.heap.size) W1 w2) V w3 w2.heap.size)=>(show False from by
    rcases hc with (hc | ⟨c1,c2⟩) | ⟨c1,c2⟩
    · have:=hc.2;have:=HBX.out;omega
    · omega
    · omega)
  have hs12:w.heap.size+2≤bx∧bx<w2.heap.size:=by have:=HBX.out;omega
  go_upto_region 12 with fail
  go_cut [14,15] (fun v14 v15 wx=>v14 = .nilIface∧∃(b:Nat) (sl:Value) (R:Nat→Prop),v15 = .pointer (some ⟨b,0,none⟩)∧Aside0 (wx.heap[b]? = some (.cells #[.int .i64 l0,sl] 74 (0,0)))∧Aside0 (TB M sp lp pp dp qp mp blocks frames (takesF F n key 2 hint) es w bx (.cells #[.int .i64 xi,.int .i64 xs,.int .i64 xl,.int .i64 xn] 102 (0,0)) R sl wx)∧Aside0 (w.heap.size+2≤b))
  case first=>
    go_region_law (first
      | (go_simp;go_at_call 125;refine (place_at key P pk hk0 hk1 HPB.out.1 HPB.out.2 HPK.out _).mono ?_;rintro e wq ⟨rfl,rfl⟩)
      | (go_simp;go_at_call 37;refine (HT1.out _ (by repeat (first | exact Below.refl _ _ | apply below_drew1 | apply below_alloc)) w2.heap.size _ (by exact heap_alloc_new w2 _) (Nat.le_refl _)).mono ?_;rintro e w3 ⟨⟨sl,rfl,htb,hkp⟩,hbo⟩;obtain⟨A3,c3,rfl,_⟩:=ow_slice htb.p.1;obtain⟨o0,o1,g0,g1⟩:=pg_cells hbo)
      | (go_simp;go_at_call 37;refine (HT0.out _ (by repeat (first | exact Below.refl _ _ | apply below_drew1 | apply below_alloc))).mono ?_;rintro e w3 ⟨sl,rfl,htb,hkp⟩;obtain⟨A3,c3,rfl,_⟩:=ow_slice htb.p.1))
    all_goals
      first
        | (rw[show (w3.setCell ⟨w2.heap.size,0,none⟩ (.int .i64 l0)).setCell ⟨w2.heap.size,1,none⟩ (.slice A3 es.length c3)=pgPut w3 w2.heap.size l0 (.slice A3 es.length c3) from rfl]
           have HH1:=Aside0.mk (pgPut_heap hbo l0 (.slice A3 es.length c3))
           have HH2:=Aside0.mk (TB.pg htb hbo (HNG _ _ (by show _<(w2.heap.push _).size;rw[Array.size_push];omega)) (by omega) (by omega) (by omega) (by omega) l0 (.slice A3 es.length c3))
           have HH3:=Aside0.mk (show w.heap.size+2≤w2.heap.size by omega)
           clear o0 o1 g0 g1 hbo htb hkp
           generalize pgPut w3 w2.heap.size l0 (.slice A3 es.length c3)=wd at HH1 HH2 ⊢)
        | (have HH1:=Aside0.mk (heap_alloc_new w3 (.cells #[.int .i64 l0,.slice A3 es.length c3] 74))
           have HH2:=Aside0.mk (htb.below (below_alloc (Below.refl _ _) (.cells #[.int .i64 l0,.slice A3 es.length c3] 74)))
           have HH3:=Aside0.mk (show w.heap.size+2≤w3.heap.size by have:=htb.k.size;have:=hkp.size;simp at this;omega)
           clear htb hkp
           generalize w3.alloc (.cells #[.int .i64 l0,.slice A3 es.length c3] 74)=wd at HH1 HH2 ⊢)
      go_wp2_with fail
      go_meet
      exact⟨rfl,_,_,_,rfl,HH1,HH2,HH3⟩
  case rest=>
    obtain⟨rfl,b,sl,R,rfl,HPG,HTB,HBN⟩:=hcut
    obtain⟨A3,c3,rfl,_⟩:=ow_slice HTB.out.p.1
    rw[HBX.out]
    obtain⟨_,_,g0,g1⟩:=pg_cells HPG.out
    obtain⟨x0,x1,x2,x3,_,_,_,_⟩:=tx_cells HTB.out.bx
    obtain⟨_,_,_,_,r0,r1,r2,r3⟩:=tx_cells HTB.out.b0
    obtain⟨f0,f1,_,_⟩:=pg_cells HTB.out.b1
    have hlt0:=heap_lt HTB.out.b0
    have hlt1:=heap_lt HTB.out.b1
    have n1:b≠w.heap.size:=by have:=HBN.out;omega
    have n2:b≠w.heap.size+1:=by have:=HBN.out;omega
    have n3:bx≠w.heap.size:=by omega
    have n4:bx≠w.heap.size+1:=by omega
    clear k0 k5 hg1 he hs1 hspW hsW1 hsW2 hsp2 hnc
    go_upto_region 13 with fail
    go_cut [12] (fun v12 wx=>v12 = .nilIface∧Aside0 (TE M sp lp pp dp qp mp blocks frames (takesF F n key 2 hint) es w ⟨xi,xs,xl,xn⟩ l0 (.slice A3 es.length c3) wx))
    case first=>
      go_region_law (fail)
      all_goals
        rw[show (((((wc.setCell ⟨w.heap.size,0,none⟩ (.int .i64 xi)).setCell ⟨w.heap.size,1,none⟩ (.int .i64 xs)).setCell ⟨w.heap.size,2,none⟩ (.int .i64 xl)).setCell ⟨w.heap.size,3,none⟩ (.int .i64 xn)).setCell ⟨w.heap.size+1,0,none⟩ (.int .i64 l0)).setCell ⟨w.heap.size+1,1,none⟩ (.slice A3 es.length c3)=pgPut (txPut wc w.heap.size ⟨xi,xs,xl,xn⟩) (w.heap.size+1) l0 (.slice A3 es.length c3) from rfl]
        have HTE:=Aside0.mk (TB.fin1 HTB.out ⟨xi,xs,xl,xn⟩ l0)
        generalize pgPut (txPut wc w.heap.size ⟨xi,xs,xl,xn⟩) (w.heap.size+1) l0 (.slice A3 es.length c3)=wd at HTE ⊢
        go_wp2_with fail
        go_meet
        exact⟨rfl,⟨TE.below HTE.out (by repeat (first | exact Below.refl _ _ | apply below_drew1))⟩⟩
    case rest=>
      obtain⟨rfl,HTE⟩:=hcut
      clear g0 g1 x0 x1 x2 x3 r0 r1 r2 r3 f0 f1 hlt0 hlt1
      obtain⟨x0,x1,x2,x3,_,_,_,_⟩:=tx_cells HTE.out.b0
      obtain⟨_,_,g0,g1⟩:=pg_cells HTE.out.b1
      go_wp2_with fail
      refine bodyPost_ret (v:=.tuple #[.agg #[.int .i64 xi,.int .i64 xs,.int .i64 xl,.int .i64 xn],.agg #[.int .i64 l0,.slice A3 es.length c3],.nilIface]) ?_ ?_ ?_
      case refine_2=>rfl
      case refine_3=>exact⟨.slice A3 es.length c3,by rw[HXX.out,HLE.out.1];rfl,by rw[HLE.out.2];exact HTE.out.p,HTE.out.f⟩
      simp[results,Tryz.results69,go_sem,x0,x1,x2,x3,g0,g1]
end Go.Proofs.YtaplpeoikebedaaGreatDoor.FwdT
namespace Go.Proofs.YtaplpeoikebedaaGreatDoor.FwdE
open Go.RowKit Go.Maps YtaplpeoikebedaaGreatDoorW.PrintWords YtaplpeoikebedaaGreatDoorW.PrintLast YtaplpeoikebedaaGreatDoorW.PrintMore
open See Mem Page Dirty SysD SysM StoreD StoreF TransT LockT LockU SpaceT WaitT FwdM FwdC
attribute [local go_sem] max2_imax min2_imin max_two min_two
theorem called_none (M:Nat→Prop)(sp lp pp dp qp mp:Nat)(blocks frames:Int)(F:FS)(n:Int)(w:World)(h:FwM M w sp lp pp dp qp mp blocks frames F)(h0:0≤n)(h1:n<F.sess)(h2:F.sess≤1000)(hx:thas F.ts (F.of n)=false)(a:Nat→Addr)(hs:SentsK [1,12] w a)(hr:Rising (kvT F.ts)) :
    Calls Tryz.prog 61 #[.pointer (some ⟨sp,0,none⟩),.int .i64 n] w fun e w'=>e = .returned (.tuple #[txV tx0,errv a (some 12)])∧Below w.heap.size w w':=by
  have HF:=Aside0.mk (fun (W:World) (hb:Below w.heap.size w W)=>h.below hb)
  obtain⟨kv,tv,b1,_,_,b4,_⟩:=h.box
  have HG:=Aside0.mk (fun (W:World) (hb:Below w.heap.size w W)=>by
    have:=tget_calls sp 8 tv F.ts (F.of n) W (b4.below hb) hr (pw_cell_below hb (show w.cell? ⟨sp,8,none⟩=some tv by simp[World.cell?,b1,fwCells]))
    rw[hx] at this
    exact this)
  have HSE:=Aside0.mk (fun (W:World) (hb:Below w.heap.size w W)=>(hs.below hb).cell 12 (by decide))
  have hspl:=heap_lt b1
  have HGL:=Aside0.mk (show 1<w.heap.size from World.block_lt_of_cell? _ _ (hs.cell 12 (by decide)))
  have hxx:tget F.ts (F.of n)=tx0:=by unfold tget;rw[hx];rfl
  obtain⟨c,hc⟩ : ∃c,F.of n=c:=⟨_,rfl⟩
  rw[hxx] at HG
  rw[hc] at HG
  obtain⟨sess,hsess⟩ : ∃s,F.sess=s:=⟨_,rfl⟩
  rw[hsess] at h1 h2
  obtain⟨W,hW⟩ : ∃W,w.alloc z4=W:=⟨_,rfl⟩
  have hWs:W.heap.size=w.heap.size+1:=by rw[←hW];show (w.heap.push _).size=_;rw[Array.size_push]
  have hBW:Below w.heap.size w W:=by rw[←hW];exact below_alloc (Below.refl _ _) _
  have hlk:=OfM.look (HF.out W hBW).of (s:=n) (by omega) (by omega)
  have hlk2:=OfM.look (HF.out (W.alloc z4) (below_alloc hBW _)).of (s:=n) (by omega) (by omega)
  have hlk3:=OfM.look (HF.out W.drew (below_drew1 hBW)).of (s:=n) (by omega) (by omega)
  have hlk4:=OfM.look (HF.out (W.alloc z4).drew (below_drew1 (below_alloc hBW _))).of (s:=n) (by omega) (by omega)
  have hlk5:=OfM.look (HF.out (W.drew.alloc z4) (below_alloc (below_drew1 hBW) _)).of (s:=n) (by omega) (by omega)
  rw[hc] at hlk hlk2 hlk3 hlk4 hlk5
  obtain⟨_,k3,_,_,k7,_,_,k11⟩:=(HF.out W hBW).cells
  obtain⟨_,_,_,_,_,_,_,j11⟩:=(HF.out (W.alloc z4) (below_alloc hBW _)).cells
  rw[hsess] at k3
  have hR0:W.heap[w.heap.size]? = some z4:=by rw[←hW];exact heap_alloc_new _ _
  have HW:=Aside0.mk hW
  have HBW:=Aside0.mk hBW
  have HR0:=Aside0.mk hR0
  have hd1:decide (n<0)=false:=decide_eq_false (by omega)
  have hd2:decide (sess≤n)=false:=decide_eq_false (by omega)
  have hspW:sp<W.heap.size:=by omega
  have HWS:=Aside0.mk hWs
  clear h b1 b4 hx hr hxx hs hc hsess hW hBW hR0 hWs
  go_enter Tryz.func61,Tryz.ntmps61
  go_wp2_with fail
  rw[show w.alloc (.cells #[.int .i64 0,.int .i64 0,.int .i64 0,.int .i64 0] 102)=W from HW.out]
  refine (wclear_nil sp 7 n _ k7 (by omega) (by omega)).mono ?_
  rintro e w' ⟨rfl,rfl⟩
  have HG2:=Aside0.mk (fun (V:World) (hb:Below w.heap.size w V) (b:Nat) (o:Obj) (hx:V.heap[b]? = some o)=>(HG.out V hb).mono (fun e w' h=>(⟨h.1,h.2,(h.2.block b (heap_lt hx)).trans hx⟩:e = .returned (.tuple #[txV tx0,.bool false])∧Below V.heap.size V w'∧w'.heap[b]? = some o)))
  simp only[txV,tx0,z4,errv] at *
  go_wp2_with fail
  go_region_law (first
    | (go_simp;go_at_call 113;refine (HG2.out _ (by repeat (first | exact HBW.out | apply below_drew1 | apply below_alloc)) W.heap.size _ (by exact heap_alloc_new W _)).mono ?_;rintro e w2 ⟨rfl,hb2,hbo⟩;obtain⟨o0,o1,o2,o3,g0,g1,g2,g3⟩:=tx_cells hbo)
    | (go_simp;go_at_call 113;refine (HG.out _ (by repeat (first | exact HBW.out | apply below_drew1 | apply below_alloc))).mono ?_;rintro e w2 ⟨rfl,hb2⟩))
  all_goals
    have hR2:w2.heap[w.heap.size]? = some (.cells #[.int .i64 0,.int .i64 0,.int .i64 0,.int .i64 0] 102 (0,0)):=by
      first
        | exact (hb2.block w.heap.size (by show _<(W.heap.push _).size;rw[Array.size_push,HWS.out];omega)).trans ((Below.heap_alloc W _ _ (by rw[HWS.out];omega)).trans HR0.out)
        | exact (hb2.block w.heap.size (by show _<W.heap.size;rw[HWS.out];omega)).trans HR0.out
    have hB2:Below w.heap.size w w2:=below_step (by repeat (first | exact HBW.out | apply below_drew1 | apply below_alloc)) hb2
    obtain⟨r0,r1,r2,r3,s0,s1,s2,s3⟩:=tx_cells hR2
    have hlt:=heap_lt hR2
    have hne1:W.heap.size≠w.heap.size:=by have:=HWS.out;omega
    have hne2:w.heap.size≠W.heap.size:=by have:=HWS.out;omega
    have HB2:=Aside0.mk hB2
    have hle:w.heap.size≤W.heap.size:=by have:=HWS.out;omega
    clear hb2 hB2 hlk hlk2 hlk3 hlk4 hlk5
    go_wp2_with fail
    first
      | (have hcc:(((w2.setCell ⟨W.heap.size,0,none⟩ (.int .i64 0)).setCell ⟨W.heap.size,1,none⟩ (.int .i64 0)).setCell ⟨W.heap.size,2,none⟩ (.int .i64 0)).setCell ⟨W.heap.size,3,none⟩ (.int .i64 0)=txPut w2 W.heap.size ⟨0,0,0,0⟩:=rfl
         rw[hcc]
         have hp:=(txPut_other hne2 ⟨0,0,0,0⟩).trans hR2
         have hbw:=txPut_below HB2.out hle ⟨0,0,0,0⟩
         obtain⟨wx,hwx⟩ : ∃wx,txPut w2 W.heap.size ⟨0,0,0,0⟩=wx:=⟨_,rfl⟩
         rw[hwx] at hp hbw ⊢)
      | (have hp:=(Below.heap_alloc w2 z4 _ hlt).trans hR2
         have hbw:=below_alloc HB2.out z4
         obtain⟨wx,hwx⟩ : ∃wx,w2.alloc z4=wx:=⟨_,rfl⟩
         rw[hwx] at hp hbw
         rw[show w2.alloc (.cells #[.int .i64 0,.int .i64 0,.int .i64 0,.int .i64 0] 102)=wx from hwx])
    have hlx:=heap_lt hp
    obtain⟨y0,y1,y2,y3,_,_,_,_⟩:=tx_cells hp
    have HBX:=Aside0.mk hbw
    have hg12:wx.cell? ⟨1,0,none⟩=some (.iface 333 (.pointer (some (a 12)))):=HSE.out wx hbw
    have hgl:=HGL.out
    have hgne:w.heap.size≠1:=by omega
    have hgne2:1≠w.heap.size:=by omega
    clear r0 r1 r2 r3 s0 s1 s2 s3 hR2
    have hpp:=txPut_heap hp ⟨0,0,0,0⟩
    have HBY:=Aside0.mk (txPut_below hbw (Nat.le_refl _) ⟨0,0,0,0⟩)
    have HWY:=Aside0.mk (show (((wx.setCell ⟨w.heap.size,0,none⟩ (.int .i64 0)).setCell ⟨w.heap.size,1,none⟩ (.int .i64 0)).setCell ⟨w.heap.size,2,none⟩ (.int .i64 0)).setCell ⟨w.heap.size,3,none⟩ (.int .i64 0)=txPut wx w.heap.size ⟨0,0,0,0⟩ from rfl)
    obtain⟨wy,hwy⟩ : ∃wy,txPut wx w.heap.size ⟨0,0,0,0⟩=wy:=⟨_,rfl⟩
    rw[hwy] at hpp HBY HWY
    have HPP:=Aside0.mk hpp
    clear hpp hwy hwx hp hbw
    go_region_law (fail)
    all_goals
      go_wp2_with fail
      rw[HWY.out]
      obtain⟨u0,u1,u2,u3,_,_,_,_⟩:=tx_cells HPP.out
      have hly:=heap_lt HPP.out
      refine bodyPost_ret (v:=.tuple #[.agg #[.int .i64 0,.int .i64 0,.int .i64 0,.int .i64 0],.iface 333 (.pointer (some (a 12)))]) ?_ rfl ⟨rfl,by repeat (first | exact HBY.out | apply below_drew1 | apply below_alloc)⟩
      simp[results,Tryz.results61,go_sem,u0,u1,u2,u3,hly]
end Go.Proofs.YtaplpeoikebedaaGreatDoor.FwdE
namespace Go.Proofs.YtaplpeoikebedaaGreatDoor.FwdN
open Go.RowKit Go.Maps YtaplpeoikebedaaGreatDoorW.PrintWords YtaplpeoikebedaaGreatDoorW.PrintLast YtaplpeoikebedaaGreatDoorW.PrintMore
open See Mem Page Disk DiskN Pool3 Wal Fresh SysD SysM StoreD StoreF StoreI TransT LockT LockU SpaceT WaitT FwdM FwdP FwdC
attribute [local go_sem] max2_imax min2_imin max_two min_two
theorem ofm_made (W:World)(m:Int)(hm:0≤m):OfM (W.alloc (.map #[] 0)) W.heap.size m (fun _=>0):=⟨0,_,World.ownsMap_made W _ _ _,by simpa using hm,fun s=>rfl⟩
theorem ofm_put {w w':World}{mp n:Nat}{D:DataW Unit}{of:Int→Int}{m s v:Int}(ho:w.ownsMap Tryz.prog 3 (plainElem Tryz.prog 3) mp n D)(hat : ∀s:Int,D.atKey (.int .i64 s) (.lit (.int .i64 0)) = .lit (.int .i64 (of s)))
    (h':w'.ownsMap Tryz.prog 3 (plainElem Tryz.prog 3) mp (n+1) (D.put (.int .i64 s) (.lit (.int .i64 v)))) (hn:(n:Int)+1≤m):OfM w' mp m (upd of s v):=by
  refine⟨n+1,_,h',by push_cast;exact hn,fun t => ?_⟩
  unfold upd
  by_cases e:t=s
  · rw[if_pos e,e]
    exact atKey_put_same (k:=.int .i64 s) ho.isMap trivial _ _
  · rw[if_neg e,atKey_put_other (fun h=>e (by injection h)),hat]
theorem ofm_del {w w':World}{mp n:Nat}{D:DataW Unit}{of:Int→Int}{m s:Int}(ho:w.ownsMap Tryz.prog 3 (plainElem Tryz.prog 3) mp n D)(hat : ∀s:Int,D.atKey (.int .i64 s) (.lit (.int .i64 0)) = .lit (.int .i64 (of s)))
    (h':w'.ownsMap Tryz.prog 3 (plainElem Tryz.prog 3) mp n (D.del (.int .i64 s))) (hn:(n:Int)≤m):OfM w' mp m (upd of s 0):=by
  refine⟨n,_,h',hn,fun t => ?_⟩
  unfold upd
  by_cases e:t=s
  · rw[if_pos e,e]
    exact atKey_del_same _
  · rw[if_neg e,atKey_del_other (fun h=>e (by injection h)),hat]
end Go.Proofs.YtaplpeoikebedaaGreatDoor.FwdN
namespace Go.Proofs.YtaplpeoikebedaaGreatDoor.RoomD
open Go.RowKit See Mem Page PageB PageR PageL Disk DiskW RecD Dirty Dirty2 SysD SysM Wal WalF GoodD PoolG PoolS FlushG Fresh DirtD Pager StoreD PageM StoreF StoreG StoreH TransT LockT LockU StoreI StoreJ
theorem tx_none {F:FS}(h:TOk F):thas F.ts 0=false:=by
  rw[Bool.eq_false_iff]
  intro e
  obtain⟨x,hx,e2⟩:=(thas_iff h.rise _).1 e
  have:=(h.ids x hx).1
  omega
theorem begin_ts {ts:List Tx}{m l:Int}(hm : ∀t∈ts,t.id≤m):tnote (ts++[⟨m+1,0,0,0⟩]) (m+1) l 0=ts++[⟨m+1,0,l,0⟩]:=by
  obtain⟨h1,h2,h3⟩:=tadd_last (ts:=ts) (x:=⟨m+1,0,0,0⟩) (fun t ht=>by have:=hm t ht;show t.id<m+1;omega)
  have hpos:tpos (ts++[⟨m+1,0,0,0⟩]) (m+1)=ts.length:=by
    have key : ∀(l:List Tx),(∀t∈l,t.id≤m)→tpos (l++[⟨m+1,0,0,0⟩]) (m+1)=l.length:=by
      intro l
      induction l with
      | nil=>intro _;simp[tpos,kvT,pos]
      | cons a aa ih=>
        intro hl
        have h:pos ((aa++[(⟨m+1,0,0,0⟩:Tx)]).map fun t:Tx=>(t.id,t.state)) (m+1)=aa.length:=ih fun t ht=>hl t (List.mem_cons_of_mem _ ht)
        have ha:=hl a List.mem_cons_self
        show (if a.id<m+1 then pos ((aa++[(⟨m+1,0,0,0⟩:Tx)]).map fun t=>(t.id,t.state)) (m+1)+1 else 0)=_
        rw[if_pos (by omega),h]
        rfl
    exact key ts hm
  have hhas:thas (ts++[⟨m+1,0,0,0⟩]) (m+1)=true:=by
    rw[thas_eq,hpos]
    simp
  unfold tnote
  rw[if_pos hhas,hpos]
  have : ∀(l1:List Tx) (x:Tx) (f:Tx→Tx),(l1++[x]).modify l1.length f=l1++[f x]:=by
    intro l1
    induction l1 with
    | nil=>intro x f;rfl
    | cons a aa ih=>intro x f;simp[List.modify_succ_cons,ih]
  rw[this]
end Go.Proofs.YtaplpeoikebedaaGreatDoor.RoomD
