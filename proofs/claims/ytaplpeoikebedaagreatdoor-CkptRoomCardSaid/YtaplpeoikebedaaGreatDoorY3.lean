/- Joined texts: LaidCkptRoom, Mem, Clone, Cell. No condition but what each says. -/
import Derived.Test.YtaplpeoikebedaaGreatDoorRows
import Derived.Test.YtaplpeoikebedaaGreatDoorY2
import Derived.ProofKit
import Derived.ChangeSame
import Derived.ChangeVars
import Derived.JoinedOf
import Derived.RowKit
import Derived.RowKitTokens
import Derived.LaidLaws
import Derived.LaidHandle
import Derived.LaidMore
import Derived.Stop.Joined
import Derived.Stop.LaidErr
import Derived.WalkSpells
set_option maxHeartbeats 8000000
set_option maxRecDepth 100000
set_option linter.unusedVariables false
set_option linter.unusedSimpArgs false
namespace Go.Proofs.YtaplpeoikebedaaGreatDoor.LaidCkptRoom
open Go.ChangeShapes Go.WideShapes Go.RowKit See
def isErr:DataW Unit→Bool
  | .iface nm (.ptr (.agg [.lit (.string _)])) => nm == "*errors.errorString"
  | _=>false
theorem isErr_of {d : DataW Unit} (h : isErr d = true) : ∃ text, d = .iface "*errors.errorString" (.ptr (.agg [.lit (.string text)])) := by
  unfold isErr at h
  split at h
  · next nm text=>exact⟨text,by rw[eq_of_beq h]⟩
  · cases h
theorem star : "*errors.errorString" = "*" ++ "errors.errorString" := by decide
theorem rowTES (u : TypeId) (h : Tryz.prog.typeName? 3 u = some "*errors.errorString") : u = 333 :=
  typeName_ptr_named (nm := "errors.errorString") (by rw [← star]; kernel_rfl) (by kernel_rfl) (by decide) u (by rw [← star]; exact h)
theorem cellsTESE:Tryz.prog.cellsOf 353=1:=by kernel_rfl
theorem cellsTS:Tryz.prog.cellsOf 9=1:=by kernel_rfl
theorem addrs_of : ∀(l:List (String×DataW Unit)) (ps:List MemPlace) (W:World),
    (∀x∈l,isErr x.2=true∧∀g,Tryz.prog.globalNamed x.1=some g→(Tryz.prog.globals[g]?).map (·.type)=some 37)→DataW.LaidVars Tryz.prog W l ps →
    (∀b off,MemPlace.cell b off∈ps→(∃c t,W.heap[b]? = some (.cells c t (0,0)))∧∀u v,W.cell? ⟨b,off,none⟩=some (.iface u v)→Value.okWide Tryz.prog W .any 0 u v) →
    ∃ zs : List Addr, zs.length = l.length ∧ (∀ (i : Nat) (x : String × DataW Unit), l[i]? = some x → ∃ (g : Nat) (a : Addr), Tryz.prog.globalNamed x.1 = some g ∧ zs[i]? = some a ∧ W.cell? ⟨g, 0, none⟩ = some (.iface 333 (.pointer (some a)))) ∧
      (∀a∈zs,MemPlace.cell a.block a.off∈ps)∧(ps.Nodup→zs.Nodup)
  | [],ps,W,_,h,_=>⟨[],rfl,fun i x hx=>by simp at hx,fun a ha=>by simp at ha,fun _=>List.nodup_nil⟩
  | (n,d) :: l,ps,W,hl,h,hrows=>by
    obtain⟨g,t,cs,fuel,p,q,hg,ht,hv,hd,hq,rfl⟩:=h
    obtain⟨he,hty⟩:=hl (n,d) (List.mem_cons_self ..)
    obtain⟨text,rfl⟩:=isErr_of he
    obtain rfl:=Option.some.inj ((hty g hg).symm.trans ht)
    obtain⟨lcs⟩:=cs
    have ok0 : ∀u v,lcs=[.iface u v]→Value.okWide Tryz.prog W .any 0 u v:=fun u v e=>by
      subst e
      exact (hrows g 0 (by simp[MemPlace.row])).2 u v (by simpa using World.var?_cell hg hv 0)
    obtain⟨a0,s0,rfl,hc0,hs0,hz0,rfl⟩:=errorString_of_trod Tryz.underlying37 rowTES Tryz.underlying333 Tryz.underlying353 rfl rfl Tryz.underlying9 cellsTESE cellsTS hd ok0
    obtain⟨zs,hlen,hat,hmem,hnd⟩:=addrs_of l q W (fun x hx=>hl x (List.mem_cons_of_mem _ hx)) hq (fun b off hm=>hrows b off (List.mem_append_right _ hm))
    refine⟨a0 :: zs,by simp[hlen],?_,?_,?_⟩
    · intro i x hx
      cases i with
      | zero=>
        simp at hx
        subst hx
        exact⟨g,a0,hg,rfl,by simpa using World.var?_cell hg hv 0⟩
      | succ i=>simpa using hat i x (by simpa using hx)
    · intro a ha
      rcases List.mem_cons.1 ha with e | e
      · subst e
        exact List.mem_append_left _ (List.mem_append_right _ (by simp[MemPlace.row]))
      · exact List.mem_append_right _ (hmem a e)
    · intro hn
      rw[List.nodup_append] at hn
      obtain⟨h1,h2,h3⟩:=hn
      refine List.nodup_cons.2 ⟨fun hin => ?_,hnd h2⟩
      exact h3 _ (List.mem_append_right _ (by simp[MemPlace.row])) _ (hmem a0 hin) rfl
def list : List (String × DataW Unit) := [("phoenix/api.ErrOff", Rows.laid_phoenix_api_ErrOff), ("phoenix/api.ErrRange", Rows.laid_phoenix_api_ErrRange), ("phoenix/api.ErrShort", Rows.laid_phoenix_api_ErrShort), ("phoenix/api.ErrRec", Rows.laid_phoenix_api_ErrRec), ("phoenix/api.ErrBlock", Rows.laid_phoenix_api_ErrBlock), ("phoenix/api.ErrMaster", Rows.laid_phoenix_api_ErrMaster), ("phoenix/api.ErrPage", Rows.laid_phoenix_api_ErrPage), ("phoenix/api.ErrLog", Rows.laid_phoenix_api_ErrLog), ("phoenix/api.ErrLogFull", Rows.laid_phoenix_api_ErrLogFull), ("phoenix/api.ErrFull", Rows.laid_phoenix_api_ErrFull), ("phoenix/api.ErrLocked", Rows.laid_phoenix_api_ErrLocked), ("phoenix/api.ErrDeadlock", Rows.laid_phoenix_api_ErrDeadlock), ("phoenix/api.ErrNoTxn", Rows.laid_phoenix_api_ErrNoTxn), ("phoenix/api.ErrOpen", Rows.laid_phoenix_api_ErrOpen), ("phoenix/api.ErrSave", Rows.laid_phoenix_api_ErrSave), ("phoenix/api.ErrBusy", Rows.laid_phoenix_api_ErrBusy), ("phoenix/api.ErrLimit", Rows.laid_phoenix_api_ErrLimit), ("phoenix/api.ErrClosed", Rows.laid_phoenix_api_ErrClosed)]
def ix:List Nat:=[0,1,2,3,4,5,6,7,8,9,10,11,12,13,14,15,16,17]
theorem list_ok:list.all (fun x=>isErr x.2)=true:=by kernel_rfl
theorem list_types:(list.map fun x=>(Tryz.prog.globalNamed x.1).bind fun g=>(Tryz.prog.globals[g]?).map (·.type))=List.replicate ix.length (some 37):=by kernel_rfl
theorem list_globals:(list.map fun x=>Tryz.prog.globalNamed x.1)=ix.map fun i=>some (gl i):=by kernel_rfl
theorem list_len:list.length=ix.length:=rfl
theorem idx_at {l:List Nat}{i:Nat}(h:i∈l):l.idxOf i<l.length∧l[l.idxOf i]? = some i:=by
  have hl:=List.idxOf_lt_length_of_mem h
  exact⟨hl,by rw[List.getElem?_eq_getElem hl,List.getElem_idxOf hl]⟩
theorem sents_of {W:World}(h:laidMetH Tryz.prog list W) : ∃a,SentsK ix W a:=by
  have h':laidMet Tryz.prog list W:=h
  obtain⟨ps,hv,hnd,hrows⟩:=h'
  obtain⟨zs,hlen,hat,hmem,hn⟩:=addrs_of list ps W (fun x hx=>by
    refine⟨List.all_eq_true.1 list_ok x hx,fun g hg => ?_⟩
    obtain⟨i,hi,hxi⟩:=List.getElem_of_mem hx
    have hr:(list.map fun x=>(Tryz.prog.globalNamed x.1).bind fun g=>(Tryz.prog.globals[g]?).map (·.type))[i]? = some ((Tryz.prog.globalNamed x.1).bind fun g=>(Tryz.prog.globals[g]?).map (·.type)):=by
      rw[List.getElem?_map,List.getElem?_eq_getElem hi,hxi];rfl
    rw[list_types,List.getElem?_replicate,if_pos (by rw[←list_len];exact hi),hg] at hr
    exact (Option.some.inj hr).symm) hv hrows
  have hlen2:zs.length=ix.length:=hlen
  refine⟨fun i=>zs.getD (ix.idxOf i) ⟨0,0,none⟩,fun i hi => ?_,fun i hi => ?_,fun i j hi hj hne => ?_⟩
  · obtain⟨hk,hki⟩:=idx_at hi
    obtain⟨x,hx⟩ : ∃x,list[ix.idxOf i]? = some x:=⟨list[ix.idxOf i]'(by rw[list_len];exact hk),List.getElem?_eq_getElem _⟩
    obtain⟨g,a,hg,ha,hc⟩:=hat _ x hx
    have hr:(list.map fun x=>Tryz.prog.globalNamed x.1)[ix.idxOf i]? = some (some g):=by rw[List.getElem?_map,hx];simp[hg]
    rw[list_globals,List.getElem?_map,hki] at hr
    obtain rfl:gl i=g:=by simpa using hr
    rw[List.getD_eq_getElem?_getD,ha]
    exact hc
  · have hi':ix.idxOf i<zs.length:=by rw[hlen2];exact (idx_at hi).1
    have hm:zs.getD (ix.idxOf i) ⟨0,0,none⟩∈zs:=by
      rw[List.getD_eq_getElem?_getD,List.getElem?_eq_getElem hi'];exact List.getElem_mem hi'
    exact (hrows _ _ (hmem _ hm)).1
  · have hi':ix.idxOf i<zs.length:=by rw[hlen2];exact (idx_at hi).1
    have hj':ix.idxOf j<zs.length:=by rw[hlen2];exact (idx_at hj).1
    have hne':ix.idxOf i≠ix.idxOf j:=fun e=>hne (by
      have h1:=(idx_at hi).2
      rw[e,(idx_at hj).2] at h1
      exact (Option.some.inj h1).symm)
    show zs.getD _ ⟨0,0,none⟩≠zs.getD _ ⟨0,0,none⟩
    rw[List.getD_eq_getElem?_getD,List.getD_eq_getElem?_getD,List.getElem?_eq_getElem hi',List.getElem?_eq_getElem hj']
    have hp:=List.pairwise_iff_getElem.1 (hn hnd)
    rcases Nat.lt_or_gt_of_ne hne' with e | e
    · exact hp _ _ hi' hj' e
    · exact fun h=>hp _ _ hj' hi' e h.symm
theorem own:ownKnob Tryz.prog.godebug=none:=by kernel_rfl
theorem door_met (os:Os)(args:Array Value):laidMetH Tryz.prog list ((World.doorLaid Tryz.prog 351 os).forCall (fun _ _=>0) ⟨#[],args,[]⟩).memory:=
  laidMetH_of_parts3 (fuel:=8) (laidMet_of_run' 8 (by kernel_rfl) (by kernel_rfl)) (by kernel_rfl) (by kernel_rfl)
end Go.Proofs.YtaplpeoikebedaaGreatDoor.LaidCkptRoom
namespace Go.Proofs.YtaplpeoikebedaaGreatDoor.Mem
open Go.RowKit YtaplpeoikebedaaGreatDoorW.PrintWords YtaplpeoikebedaaGreatDoorW.PrintLast YtaplpeoikebedaaGreatDoorW.PrintMore
open See
def imin (x y:Int):Int:=if y<x then y else x
def imax (x y:Int):Int:=if x<y then y else x
theorem min2_imin (k k':IntKind)(x y:Int):Builtin.min2 (.int k x) (.int k' y)=pure (.int k (imin x y)):=by rw[min2_int];rfl
theorem max2_imax (k k':IntKind)(x y:Int):Builtin.max2 (.int k x) (.int k' y)=pure (.int k (imax x y)):=by rw[max2_int];rfl
theorem imin_eq (x y:Int):imin x y=min x y:=by unfold imin;omega
theorem imax_eq (x y:Int):imax x y=max x y:=by unfold imax;omega
def tag (w:World)(k:Nat):Nat:=match w.heap[k]? with
  | some (.cells _ e _)=>e
  | _=>0
theorem tag_of {w:World}{k:Nat}{c:Array Value}{e:Nat}{f:Nat×Nat}(h:w.heap[k]? = some (.cells c e f)):tag w k=e:=by unfold tag;rw[h]
theorem tag_eq {w w':World}{k:Nat}(h:w'.heap[k]? = w.heap[k]?):tag w' k=tag w k:=by unfold tag;rw[h]
structure Frm (T:List Nat) (M:Nat→Prop) (w w':World):Prop where
  os:w'.os=w.os
  tape:w'.tape=w.tape
  output:w'.output=w.output
  size:w.heap.size≤w'.heap.size
  block : ∀k,k<w.heap.size→(M k→tag w k∉T)→w'.heap[k]? = w.heap[k]?
def Gr (M:Nat→Prop)(w w':World):Nat→Prop:=fun k=>M k∨(w.heap.size≤k∧k<w'.heap.size)
theorem Gr.trans {M:Nat→Prop}{w w1 w2:World}(h1:w.heap.size≤w1.heap.size)(h2:w1.heap.size≤w2.heap.size){k:Nat}(h:Gr (Gr M w w1) w1 w2 k):Gr M w w2 k:=by
  rcases h with (h | ⟨ha,hb⟩) | ⟨ha,hb⟩
  · exact .inl h
  · exact .inr ⟨ha,by omega⟩
  · exact .inr ⟨by omega,hb⟩
theorem Gr.grow {M:Nat→Prop}{w w1 w2:World}(h2:w1.heap.size≤w2.heap.size){k:Nat}(h:Gr M w w1 k):Gr M w w2 k:=by
  rcases h with h | ⟨ha,hb⟩
  · exact .inl h
  · exact .inr ⟨ha,by omega⟩
theorem Frm.refl (T:List Nat)(M:Nat→Prop)(w:World):Frm T M w w:=⟨rfl,rfl,rfl,Nat.le_refl _,fun _ _ _=>rfl⟩
theorem Frm.of_below {T:List Nat}{M:Nat→Prop}{w w':World}(h:Below w.heap.size w w'):Frm T M w w':=
  ⟨h.os,h.tape,h.output,h.size,fun k hk _=>h.block k hk⟩
theorem Frm.below {T:List Nat}{M:Nat→Prop}{w w':World}{B:Nat}(h:Frm T M w w')(hM : ∀k,M k→B≤k)(hB:B≤w.heap.size):Below B w w':=
  ⟨h.os,h.tape,h.output,h.size,fun k hk=>h.block k (by omega) (fun hm=>by have:=hM k hm;omega)⟩
theorem Frm.wide {T T':List Nat}{M M':Nat→Prop}{w w':World}(h:Frm T M w w')(hT : ∀t∈T,t∈T')(hM : ∀k,k<w.heap.size→M k→M' k):Frm T' M' w w':=
  ⟨h.os,h.tape,h.output,h.size,fun k hk hn=>h.block k hk (fun hm ht=>hn (hM k hk hm) (hT _ ht))⟩
theorem Frm.trans {T:List Nat}{M:Nat→Prop}{w w1 w2:World}(h:Frm T M w w1)(k:Frm T M w1 w2):Frm T M w w2:=
  ⟨k.os.trans h.os,k.tape.trans h.tape,k.output.trans h.output,Nat.le_trans h.size k.size,fun i hi hn=>by
    have e:=h.block i hi hn
    exact (k.block i (Nat.lt_of_lt_of_le hi h.size) (fun hm=>by rw[tag_eq e];exact hn hm)).trans e⟩
theorem Frm.transG {T:List Nat}{M:Nat→Prop}{w w1 w2:World}(h:Frm T M w w1)(k:Frm T (Gr M w w1) w1 w2):Frm T M w w2:=
  ⟨k.os.trans h.os,k.tape.trans h.tape,k.output.trans h.output,Nat.le_trans h.size k.size,fun i hi hn=>by
    have e:=h.block i hi hn
    exact (k.block i (Nat.lt_of_lt_of_le hi h.size) (fun hm=>by
      rw[tag_eq e]
      rcases hm with hm | ⟨hm,_⟩
      · exact hn hm
      · omega)).trans e⟩
theorem Frm.step {T:List Nat}{M:Nat→Prop}{w w1 w2:World}(h:Frm T M w w1)(k:Below w1.heap.size w1 w2):Frm T M w w2:=h.trans (.of_below k)
theorem Frm.drew {T:List Nat}{M:Nat→Prop}{w w1:World}(h:Frm T M w w1):Frm T M w w1.drew:=⟨h.os,h.tape,h.output,h.size,h.block⟩
theorem Frm.drewN {T:List Nat}{M:Nat→Prop}{w w1:World}(h:Frm T M w w1)(n:Nat):Frm T M w (w1.drewN n):=⟨h.os,h.tape,h.output,h.size,h.block⟩
theorem Frm.alloc {T:List Nat}{M:Nat→Prop}{w w1:World}(h:Frm T M w w1)(o:Obj):Frm T M w (w1.alloc o):=h.step (Below.alloc (.refl _ _) (Nat.le_refl _) o)
theorem Frm.set {T:List Nat}{M:Nat→Prop}{w w1:World}(h:Frm T M w w1){a:Addr}(ha:a.block<w.heap.size→M a.block∧tag w a.block∈T)(v:Value):Frm T M w (w1.setCell a v):=
  ⟨h.os,h.tape,h.output,by simpa [World.setCell] using h.size,fun k hk hn=>by
    rw[Below.heap_setCell _ _ _ _ (fun e=>by subst e;exact hn (ha hk).1 (ha hk).2)]
    exact h.block k hk hn⟩
theorem Frm.grown {T:List Nat}{M:Nat→Prop}{w w1 w2:World}{row:Option Nat}(h:Frm T M w w1)(hg:w1.grownBy w2 row)(hr : ∀k,row=some k→k<w.heap.size→M k∧tag w k∈T):Frm T M w w2:=
  ⟨hg.os.trans h.os,hg.tape.trans h.tape,hg.output.trans h.output,Nat.le_trans h.size hg.size,fun k hk hn=>by
    rw[hg.block k (Nat.lt_of_lt_of_le hk h.size) (fun e=>hn (hr k e.symm hk).1 (hr k e.symm hk).2)]
    exact h.block k hk hn⟩
theorem heap_lt {w:World}{b:Nat}{o:Obj}(h:w.heap[b]? = some o):b<w.heap.size:=row_lt h
theorem Frm.at {T:List Nat}{M:Nat→Prop}{w w':World}(h:Frm T M w w'){k:Nat}{c:Array Value}{e:Nat}{f:Nat×Nat}(hk:w.heap[k]? = some (.cells c e f))(he:e∉T∨¬M k):w'.heap[k]? = some (.cells c e f):=by
  rw[h.block k (heap_lt hk) (fun hm=>by
    rw[tag_of hk]
    rcases he with he | he
    · exact he
    · exact absurd hm he)]
  exact hk
theorem grown_blk {W W2 W3:World}{v:Value}{b:Nat}(hg:W2.grownBy W3 v.ownBlock)(hw:W2.heap[b]? = W.heap[b]?)(hlt:b<W2.heap.size)(hne : ∀k,v.ownBlock=some k→k≠b):W3.heap[b]? = W.heap[b]? :=
  (hg.block b hlt (fun e=>hne b e.symm rfl)).trans hw
def Rd (w:World)(e size:Nat)(v:Value)(n:Nat)(xs:List Value):Prop:=
  xs.length=n*size∧n≤1000000 ∧
  ((v = .slice none 0 0∧n=0) ∨
   ∃g off cap cur fz,v = .slice (some ⟨g,off,none⟩) n cap∧w.heap[g]? = some (.cells cur e fz)∧n≤cap∧cap≤maxLen∧off+n*size≤cur.size∧(cur.toList.drop off).take (n*size)=xs)
theorem Rd.nil (w:World)(e size:Nat):Rd w e size (.slice none 0 0) 0 []:=⟨by simp,by omega,.inl ⟨rfl,rfl⟩⟩
theorem Rd.move {w w':World}{e size n:Nat}{v:Value}{xs:List Value}(h:Rd w e size v n xs)(hb : ∀k,v.ownBlock=some k→w'.heap[k]? = w.heap[k]?):Rd w' e size v n xs:=by
  obtain⟨h1,hm,h2⟩:=h
  refine⟨h1,hm,?_⟩
  rcases h2 with h2 | ⟨g,off,cap,cur,fz,rfl,hh,r⟩
  · exact .inl h2
  · exact .inr ⟨g,off,cap,cur,fz,rfl,(hb g rfl).trans hh,r⟩
theorem Rd.block {w:World}{e size n:Nat}{v:Value}{xs:List Value}(h:Rd w e size v n xs){k:Nat}(hk:v.ownBlock=some k) : ∃c fz,w.heap[k]? = some (.cells c e fz):=by
  rcases h.2.2 with ⟨rfl,_⟩ | ⟨g,off,cap,cur,fz,rfl,hh,r⟩
  · simp[Value.ownBlock] at hk
  · have:g=k:=by simpa [Value.ownBlock] using hk
    subst this
    exact⟨cur,fz,hh⟩
theorem Rd.below {w w':World}{e size n:Nat}{v:Value}{xs:List Value}(h:Rd w e size v n xs)(hb:Below w.heap.size w w'):Rd w' e size v n xs:=
  h.move fun k hk=>by obtain⟨c,fz,hc⟩:=h.block hk;exact hb.block _ (heap_lt hc)
theorem Rd.of_own {w:World}{base e size n:Nat}{v:Value}{xs:List Value}(h:w.ownsRow base e size v n xs)(hn:n≤1000000):Rd w e size v n xs:=by
  obtain⟨h1,h2⟩:=h
  refine⟨h1,hn,?_⟩
  rcases h2 with h2 | ⟨g,cap,cur,rfl,hg,hh,hnc,hcm,hsz,htk⟩
  · exact .inl h2
  · exact .inr ⟨g,0,cap,cur,_,rfl,hh,hnc,hcm,by rw[hsz,Nat.zero_add];exact Nat.mul_le_mul_right _ hnc,by simpa using htk⟩
theorem Rd.form {w:World}{e size n:Nat}{v:Value}{xs:List Value}(h:Rd w e size v n xs) : ∃A cap,v = .slice A n cap∧(A=none→n=0∧cap=0)∧(∀ad,A=some ad→(∀j u,xs[j]? = some u→w.cell? (ad.add j)=some u)∧True∧ad.block<w.heap.size):=by
  rcases h.2.2 with ⟨rfl,rfl⟩ | ⟨g,off,cap,cur,fz,rfl,hh,hnc,hcm,hsz,htk⟩
  · exact⟨none,0,rfl,fun _=>⟨rfl,rfl⟩,fun ad h=>by cases h⟩
  · refine⟨_,cap,rfl,fun h=>(by cases h),fun ad he => ?_⟩
    obtain rfl:(⟨g,off,none⟩:Addr)=ad:=Option.some.inj he
    refine⟨fun j u hj => ?_,trivial,heap_lt hh⟩
    rw[←htk] at hj
    rw[List.getElem?_take] at hj
    split at hj
    · rw[List.getElem?_drop] at hj
      rw[add_at]
      simp only[World.cell?,hh]
      simpa using hj
    · cases hj
theorem Rd.sub {w:World}{e size n:Nat}{g off cap:Nat}{xs:List Value}(h:Rd w e size (.slice (some ⟨g,off,none⟩) n cap) n xs)(lo hi cap':Nat)(h1:lo≤hi)(h2:hi≤n)(h3:hi - lo≤cap')(h4:cap'≤maxLen) :
    Rd w e size (.slice (some ⟨g,off+lo*size,none⟩) (hi - lo) cap') (hi - lo) ((xs.drop (lo*size)).take ((hi - lo)*size)):=by
  obtain⟨hl,hm,h⟩:=h
  rcases h with ⟨he,_⟩ | ⟨g',off',cap2,cur,fz,he,hh,hnc,hcm,hsz,htk⟩
  · cases he
  · injection he with e1 e2 e3
    injection e1 with e1
    injection e1 with e4 e5
    subst e4 e5 e3
    have hb:lo*size+(hi - lo)*size≤n*size:=by rw[←Nat.add_mul];exact Nat.mul_le_mul_right _ (by omega)
    refine⟨by rw[List.length_take,List.length_drop,hl];omega,by omega,.inr ⟨g,off+lo*size,cap',cur,fz,rfl,hh,h3,h4,by omega,?_⟩⟩
    rw[←htk,List.drop_take,List.take_take,List.drop_drop,Nat.min_eq_left (by omega)]
def BS (w:World)(v:Value)(bs:List Int):Prop:=Rd w 5 1 v bs.length (bs.map (.int .u8))
theorem BS.below {w w':World}{v:Value}{bs:List Int}(h:BS w v bs)(hb:Below w.heap.size w w'):BS w' v bs:=Rd.below h hb
theorem BS.nil (w:World):BS w (.slice none 0 0) []:=Rd.nil _ _ _
def IsB (bs:List Int):Prop := ∀x∈bs,0≤x∧x<256
theorem IsB.nil:IsB []:=fun x h=>by simp at h
theorem IsB.at {bs:List Int}(h:IsB bs){i:Nat}{x:Int}(hx:bs[i]? = some x):0≤x∧x<256:=h x (List.mem_of_getElem? hx)
theorem IsB.append {a b:List Int}(ha:IsB a)(hb:IsB b):IsB (a++b):=fun x h=>by
  rcases List.mem_append.1 h with h | h
  · exact ha x h
  · exact hb x h
theorem IsB.take {a:List Int}(ha:IsB a)(n:Nat):IsB (a.take n):=fun x h=>ha x (List.mem_of_mem_take h)
theorem IsB.drop {a:List Int}(ha:IsB a)(n:Nat):IsB (a.drop n):=fun x h=>ha x (List.mem_of_mem_drop h)
theorem IsB.zeros (n:Nat):IsB (List.replicate n 0):=fun x h=>by
  obtain⟨_,rfl⟩:=List.mem_replicate.1 h;omega
theorem ow_move {w w':World}{base e size n:Nat}{v:Value}{xs:List Value}(h:w.ownsRow base e size v n xs)(hb : ∀k,v.ownBlock=some k→w'.heap[k]? = w.heap[k]?):w'.ownsRow base e size v n xs:=by
  obtain⟨h1,h2⟩:=h
  refine⟨h1,?_⟩
  rcases h2 with h2 | ⟨g,cap,cur,rfl,hg,hh,r⟩
  · exact .inl h2
  · exact .inr ⟨g,cap,cur,rfl,hg,(hb g rfl).trans hh,r⟩
theorem ow_block {w:World}{base e size n:Nat}{v:Value}{xs:List Value}(h:w.ownsRow base e size v n xs){k:Nat}(hk:v.ownBlock=some k):base≤k∧∃c,w.heap[k]? = some (.cells c e (0,0)):=by
  rcases h.2 with ⟨rfl,_⟩ | ⟨g,cap,cur,rfl,hg,hh,r⟩
  · simp[Value.ownBlock] at hk
  · have:g=k:=by simpa [Value.ownBlock] using hk
    subst this
    exact⟨hg,cur,hh⟩
theorem ow_below {w w':World}{base e size n:Nat}{v:Value}{xs:List Value}(h:w.ownsRow base e size v n xs)(hb:Below w.heap.size w w'):w'.ownsRow base e size v n xs:=
  ow_move h fun k hk=>by obtain⟨_,c,hc⟩:=ow_block h hk;exact hb.block _ (heap_lt hc)
theorem ow_frm {T:List Nat}{M:Nat→Prop}{w w':World}{base e size n:Nat}{v:Value}{xs:List Value}(h:w.ownsRow base e size v n xs)(hf:Frm T M w w')(he:e∉T):w'.ownsRow base e size v n xs:=
  ow_move h fun k hk=>by obtain⟨_,c,hc⟩:=ow_block h hk;rw[hf.at hc (.inl he),hc]
theorem ow_base {w:World}{base base' e size n:Nat}{v:Value}{xs:List Value}(h:w.ownsRow base e size v n xs)(hb:base'≤base):w.ownsRow base' e size v n xs:=by
  obtain⟨h1,h2⟩:=h
  refine⟨h1,?_⟩
  rcases h2 with h2 | ⟨g,cap,cur,rfl,hg,r⟩
  · exact .inl h2
  · exact .inr ⟨g,cap,cur,rfl,by omega,r⟩
theorem ow_slice {w:World}{base e size n:Nat}{v:Value}{xs:List Value}(h:w.ownsRow base e size v n xs) : ∃A cap,v = .slice A n cap∧(A=none→n=0∧cap=0):=by
  rcases h.2 with ⟨rfl,rfl⟩ | ⟨g,cap,cur,rfl,_⟩
  · exact⟨none,0,rfl,fun _=>⟨rfl,rfl⟩⟩
  · exact⟨_,cap,rfl,fun h=>by cases h⟩
end Go.Proofs.YtaplpeoikebedaaGreatDoor.Mem
namespace Go.Proofs.YtaplpeoikebedaaGreatDoor.Clone
open Go.RowKit YtaplpeoikebedaaGreatDoorW.PrintWords YtaplpeoikebedaaGreatDoorW.PrintLast YtaplpeoikebedaaGreatDoorW.PrintMore
open See Mem
theorem info_bytes:(Tryz.prog.info? 5).map (fun i=>(i.zero,i.size,i.bytes))=some (some (.int .u8 0),1,1):=by kernel_rfl
theorem clone_bytes (v:Value)(n:Nat)(xs:List Value)(w:World)(h:Rd w 5 1 v n xs)(h1 : ∀u∈xs,u.oneCell'=true) :
    Calls Tryz.prog 95 #[v] w fun e w' => ∃v',e = .returned v'∧w'.ownsRow w.heap.size 5 1 v' n xs∧Below w.heap.size w w':=by
  obtain⟨i0,hi,hzz⟩:=Option.map_eq_some_iff.1 info_bytes
  simp only[Prod.mk.injEq] at hzz
  obtain⟨hz0,hz1,hz2⟩:=hzz
  obtain⟨A,c,rfl,hA,hr⟩:=h.form
  have hlen:=h.1
  have hmax:=h.2.1
  cases A with
  | none=>
    obtain⟨rfl,rfl⟩:=hA rfl
    obtain rfl:xs=[]:=List.eq_nil_of_length_eq_zero (by simpa using hlen)
    have hnil:=fun W:World=>Lib.run_eql_slice_nil (P:=Tryz.prog) W 93 5 none 0 0 0 0 Tryz.underlying93
    clear hA hr hlen h h1 hmax
    go_enter Tryz.func95,Tryz.ntmps95
    go_wp2
    go_ret
    exact⟨_,rfl,World.ownsRow_nil _ _ _ _,Below.refl _ _⟩
  | some ad=>
    obtain⟨hcell,_,hlt⟩:=hr ad rfl
    have hnil:=fun W:World=>Lib.run_eql_slice_nil (P:=Tryz.prog) W 93 5 (some ad) n c 0 0 Tryz.underlying93
    have HC:=Aside0.mk hcell
    have H1:=Aside0.mk h1
    have HL:=Aside0.mk hlen
    have HM:=Aside0.mk hmax
    have HLT:=Aside0.mk hlt
    clear hcell h1 hlen hmax hlt hA hr h
    go_enter Tryz.func95,Tryz.ntmps95
    go_wp2_with (at_builtin;refine wpList_append_own_at _ (by rfl) _ _ 93 (by rfl) w.heap.size 5 i0 (.int .u8 0) 1 1 Tryz.underlying93 hi hz0 hz1 hz2 rfl (by decide) _ 0 [] (by rfl) ?own ad n c xs (by rfl) HL.out ?news H1.out ?h63 ?hby ?base ?_)
    case own=>exact⟨rfl,.inr ⟨w.heap.size,0,#[],rfl,Nat.le_refl _,(by show (w.heap.push _)[w.heap.size]? = _;exact Array.getElem?_push_size),by omega,by decide,rfl,rfl⟩⟩
    case news=>
      intro j u hu
      rw[World.cell?_alloc_lt _ _ _ (by have:=HLT.out;unfold Addr.add;split<;>simpa using this)]
      exact HC.out j u hu
    case h63=>have:=HM.out;unfold maxLen;omega
    case hby=>have:=HM.out;omega
    case base=>simp
    intro v' w1 hown hg _ hat
    have HB:=Aside0.mk (pw_below_grown (below_alloc (Below.refl w.heap.size w) (Obj.cells #[] 5)) _ (below_size (below_alloc (Below.refl _ _) _)) hg (by intro k hk;injection hk with hk;exact Nat.le_of_eq hk))
    have HO:=Aside0.mk hown
    clear hown hg hat
    obtain⟨A',c',rfl,hA'⟩:=ow_slice HO.out
    clear hA'
    go_wp2
    go_ret
    exact⟨_,rfl,by simpa using HO.out,HB.out⟩
theorem info_entries:(Tryz.prog.info? 169).map (fun i=>(i.zero,i.size,i.bytes))=some (some (.agg #[.int .i64 0,.int .i64 0]),2,16):=by kernel_rfl
theorem clone_entries (v:Value)(n:Nat)(xs:List Value)(w:World)(h:Rd w 169 2 v n xs)(h1 : ∀u∈xs,u.oneCell'=true) :
    Calls Tryz.prog 146 #[v] w fun e w' => ∃v',e = .returned v'∧w'.ownsRow w.heap.size 169 2 v' n xs∧Below w.heap.size w w':=by
  obtain⟨i0,hi,hzz⟩:=Option.map_eq_some_iff.1 info_entries
  simp only[Prod.mk.injEq] at hzz
  obtain⟨hz0,hz1,hz2⟩:=hzz
  obtain⟨A,c,rfl,hA,hr⟩:=h.form
  have hlen:=h.1
  have hmax:=h.2.1
  cases A with
  | none=>
    obtain⟨rfl,rfl⟩:=hA rfl
    obtain rfl:xs=[]:=List.eq_nil_of_length_eq_zero (by simpa using hlen)
    have hnil:=fun W:World=>Lib.run_eql_slice_nil (P:=Tryz.prog) W 72 169 none 0 0 0 0 Tryz.underlying72
    clear hA hr hlen h h1 hmax
    go_enter Tryz.func146,Tryz.ntmps146
    go_wp2
    go_ret
    exact⟨_,rfl,World.ownsRow_nil _ _ _ _,Below.refl _ _⟩
  | some ad=>
    obtain⟨hcell,_,hlt⟩:=hr ad rfl
    have hnil:=fun W:World=>Lib.run_eql_slice_nil (P:=Tryz.prog) W 72 169 (some ad) n c 0 0 Tryz.underlying72
    have HC:=Aside0.mk hcell
    have H1:=Aside0.mk h1
    have HL:=Aside0.mk hlen
    have HM:=Aside0.mk hmax
    have HLT:=Aside0.mk hlt
    clear hcell h1 hlen hmax hlt hA hr h
    go_enter Tryz.func146,Tryz.ntmps146
    go_wp2_with (at_builtin;refine wpList_append_own_at _ (by rfl) _ _ 72 (by rfl) w.heap.size 169 i0 (.agg #[.int .i64 0,.int .i64 0]) 2 16 Tryz.underlying72 hi hz0 hz1 hz2 rfl (by decide) _ 0 [] (by rfl) ?own ad n c xs (by rfl) HL.out ?news H1.out ?h63 ?hby ?base ?_)
    case own=>exact⟨rfl,.inr ⟨w.heap.size,0,#[],rfl,Nat.le_refl _,(by show (w.heap.push _)[w.heap.size]? = _;exact Array.getElem?_push_size),by omega,by decide,rfl,rfl⟩⟩
    case news=>
      intro j u hu
      rw[World.cell?_alloc_lt _ _ _ (by have:=HLT.out;unfold Addr.add;split<;>simpa using this)]
      exact HC.out j u hu
    case h63=>have:=HM.out;unfold maxLen;omega
    case hby=>have:=HM.out;omega
    case base=>simp
    intro v' w1 hown hg _ hat
    have HB:=Aside0.mk (pw_below_grown (below_alloc (Below.refl w.heap.size w) (Obj.cells #[] 169)) _ (below_size (below_alloc (Below.refl _ _) _)) hg (by intro k hk;injection hk with hk;exact Nat.le_of_eq hk))
    have HO:=Aside0.mk hown
    clear hown hg hat
    obtain⟨A',c',rfl,hA'⟩:=ow_slice HO.out
    clear hA'
    go_wp2
    go_ret
    exact⟨_,rfl,by simpa using HO.out,HB.out⟩
theorem info_dirties:(Tryz.prog.info? 288).map (fun i=>(i.zero,i.size,i.bytes))=some (some (.agg #[.int .i64 0,.int .i64 0]),2,16):=by kernel_rfl
theorem clone_dirties (v:Value)(n:Nat)(xs:List Value)(w:World)(h:Rd w 288 2 v n xs)(h1 : ∀u∈xs,u.oneCell'=true) :
    Calls Tryz.prog 198 #[v] w fun e w' => ∃v',e = .returned v'∧w'.ownsRow w.heap.size 288 2 v' n xs∧Below w.heap.size w w':=by
  obtain⟨i0,hi,hzz⟩:=Option.map_eq_some_iff.1 info_dirties
  simp only[Prod.mk.injEq] at hzz
  obtain⟨hz0,hz1,hz2⟩:=hzz
  obtain⟨A,c,rfl,hA,hr⟩:=h.form
  have hlen:=h.1
  have hmax:=h.2.1
  cases A with
  | none=>
    obtain⟨rfl,rfl⟩:=hA rfl
    obtain rfl:xs=[]:=List.eq_nil_of_length_eq_zero (by simpa using hlen)
    have hnil:=fun W:World=>Lib.run_eql_slice_nil (P:=Tryz.prog) W 158 288 none 0 0 0 0 Tryz.underlying158
    clear hA hr hlen h h1 hmax
    go_enter Tryz.func198,Tryz.ntmps198
    go_wp2
    go_ret
    exact⟨_,rfl,World.ownsRow_nil _ _ _ _,Below.refl _ _⟩
  | some ad=>
    obtain⟨hcell,_,hlt⟩:=hr ad rfl
    have hnil:=fun W:World=>Lib.run_eql_slice_nil (P:=Tryz.prog) W 158 288 (some ad) n c 0 0 Tryz.underlying158
    have HC:=Aside0.mk hcell
    have H1:=Aside0.mk h1
    have HL:=Aside0.mk hlen
    have HM:=Aside0.mk hmax
    have HLT:=Aside0.mk hlt
    clear hcell h1 hlen hmax hlt hA hr h
    go_enter Tryz.func198,Tryz.ntmps198
    go_wp2_with (at_builtin;refine wpList_append_own_at _ (by rfl) _ _ 158 (by rfl) w.heap.size 288 i0 (.agg #[.int .i64 0,.int .i64 0]) 2 16 Tryz.underlying158 hi hz0 hz1 hz2 rfl (by decide) _ 0 [] (by rfl) ?own ad n c xs (by rfl) HL.out ?news H1.out ?h63 ?hby ?base ?_)
    case own=>exact⟨rfl,.inr ⟨w.heap.size,0,#[],rfl,Nat.le_refl _,(by show (w.heap.push _)[w.heap.size]? = _;exact Array.getElem?_push_size),by omega,by decide,rfl,rfl⟩⟩
    case news=>
      intro j u hu
      rw[World.cell?_alloc_lt _ _ _ (by have:=HLT.out;unfold Addr.add;split<;>simpa using this)]
      exact HC.out j u hu
    case h63=>have:=HM.out;unfold maxLen;omega
    case hby=>have:=HM.out;omega
    case base=>simp
    intro v' w1 hown hg _ hat
    have HB:=Aside0.mk (pw_below_grown (below_alloc (Below.refl w.heap.size w) (Obj.cells #[] 288)) _ (below_size (below_alloc (Below.refl _ _) _)) hg (by intro k hk;injection hk with hk;exact Nat.le_of_eq hk))
    have HO:=Aside0.mk hown
    clear hown hg hat
    obtain⟨A',c',rfl,hA'⟩:=ow_slice HO.out
    clear hA'
    go_wp2
    go_ret
    exact⟨_,rfl,by simpa using HO.out,HB.out⟩
end Go.Proofs.YtaplpeoikebedaaGreatDoor.Clone
namespace Go.Proofs.YtaplpeoikebedaaGreatDoor.Cell
open Go.RowKit YtaplpeoikebedaaGreatDoorW.PrintWords YtaplpeoikebedaaGreatDoorW.PrintLast YtaplpeoikebedaaGreatDoorW.PrintMore
open See Mem Clone
attribute [local go_sem] max2_int min2_int max_two min_two
def le:List Int→Int
  | []=>0
  | x :: xs=>x+256*le xs
theorem le_append (xs ys:List Int):le (xs++ys)=le xs+256 ^ xs.length*le ys:=by
  induction xs with
  | nil=>simp[le]
  | cons x xs ih=>
    simp only[List.cons_append,le,ih,List.length_cons,Int.pow_succ]
    rw[Int.mul_add,Int.mul_comm (256 ^ xs.length) 256,←Int.mul_assoc]
    omega
theorem le_bound : ∀xs:List Int,IsB xs→0≤le xs∧le xs<256 ^ xs.length
  | [],_=>by simp[le]
  | x :: xs,h=>by
    obtain⟨h1,h2⟩:=le_bound xs fun y hy=>h y (List.mem_cons_of_mem _ hy)
    obtain⟨h3,h4⟩:=h x (List.mem_cons_self ..)
    simp only[le,List.length_cons,Int.pow_succ]
    omega
theorem wrap64u {n:Int}(h0:0≤n)(h1:n<2 ^ 64):IntKind.u64.wrap n=n:=by
  simp only[IntKind.wrap,IntKind.bits,IntKind.signed,Bool.false_and]
  rw[if_neg (by simp)]
  exact Int.emod_eq_of_lt h0 h1
theorem pow_8 (d:Nat):(2:Int) ^ (8*d)=256 ^ d:=by rw[Int.pow_mul];rfl
theorem npow_8 (d:Nat):(2:Nat) ^ (8*d)=256 ^ d:=by rw[Nat.pow_mul]
theorem or_step (j x:Int)(d:Nat)(hd:d<8)(hj0:0≤j)(hj:j<256 ^ d)(hx0:0≤x)(hx:x<256):bits .or .u64 j (IntKind.u64.wrap (x*2 ^ (8*d)))=j+256 ^ d*x:=by
  obtain⟨a,rfl⟩:=Int.eq_ofNat_of_zero_le hj0
  obtain⟨b,rfl⟩:=Int.eq_ofNat_of_zero_le hx0
  have ha:a<2 ^ (8*d):=by rw[npow_8];exact_mod_cast hj
  have hb:b<256:=by exact_mod_cast hx
  have hp:2 ^ (8*d)*256≤2 ^ 64:=by
    have:(256:Nat)=2 ^ 8:=rfl
    rw[this,←Nat.pow_add]
    exact Nat.pow_le_pow_right (by decide) (by omega)
  have hbp:2 ^ (8*d)*b<2 ^ 64:=Nat.lt_of_lt_of_le (Nat.mul_lt_mul_of_pos_left hb (Nat.two_pow_pos _)) hp
  have hap:a<2 ^ 64:=Nat.lt_of_lt_of_le ha (by omega)
  have e:(b:Int)*2 ^ (8*d)=((2 ^ (8*d)*b:Nat):Int):=by rw[Int.natCast_mul,Int.mul_comm];simp
  rw[e,wrap64u (Int.natCast_nonneg _) (by exact_mod_cast hbp)]
  rw[(bits_nat .u64 64 (by decide) (fun n h0 h1=>wrap64u h0 h1) a _ hap hbp).2]
  rw[Nat.or_comm,←Nat.two_pow_add_eq_or_of_lt ha b,npow_8]
  simp
  omega
theorem le_snoc {bs:List Int}{d:Nat}{x:Int}(h:bs[d]? = some x):le (bs.take (d+1))=le (bs.take d)+256 ^ d*x:=by
  have hl:d<bs.length:=(List.getElem?_eq_some_iff.1 h).1
  have hx:bs[d]=x:=(List.getElem?_eq_some_iff.1 h).2
  rw[List.take_succ_eq_append_getElem hl,le_append,hx,List.length_take,Nat.min_eq_left (by omega)]
  simp[le]
theorem places_calls (A:Option Addr)(n c:Nat)(a s:Int)(h0:0≤a)(h1:1≤s)(h8:s≤8)(hn:a+s≤n)(hb:a≤1000000)(w:World) :
    Calls Tryz.prog 155 #[.slice A n c,.int .i64 a,.int .i64 s] w fun e w'=>e = .returned (.tuple #[.int .i64 a,.int .i64 (a+s)])∧w=w':=by
  obtain⟨m,hm⟩ : ∃m:Int,(n:Int)=m:=⟨_,rfl⟩
  have hn':a+s≤m:=by omega
  have e1:max a 0=a:=by omega
  have e2:max s 1=s:=by omega
  have e3:min s 8=s:=by omega
  have e4:min (a+s) m=a+s:=by omega
  go_enter Tryz.func155,Tryz.ntmps155
  go_wp2
  exact bodyPost_ret (v:=.tuple #[.int .i64 a,.int .i64 (a+s)]) (by simp[results,Tryz.results155,go_sem]) rfl ⟨rfl,rfl⟩
theorem get_calls (v:Value)(bs:List Int)(a s:Int)(h0:0≤a)(h1:1≤s)(h8:s≤8)(hn:a+s≤bs.length)(hB:IsB bs)(w:World)(hb:BS w v bs) :
    Calls Tryz.prog 104 #[v,.int .i64 a,.int .i64 s] w fun e w'=>e = .returned (.int .u64 (le ((bs.drop a.toNat).take s.toNat)))∧w=w':=by
  obtain⟨A,c,rfl,hA,hr⟩:=Rd.form hb
  obtain⟨ad,rfl⟩ : ∃ad,A=some ad:=by
    cases A with
    | none=>have:=(hA rfl).1;omega
    | some ad=>exact⟨ad,rfl⟩
  obtain⟨hcell,_,hlt⟩:=hr ad rfl
  have HC:=Aside0.mk hcell
  have HB:=Aside0.mk hB
  have hm:=hb.2.1
  obtain⟨n,hnn⟩ : ∃n,bs.length=n:=⟨_,rfl⟩
  have HN:=Aside0.mk hnn
  rw[hnn] at hn hm ⊢
  have hd1:decide (a≥(n:Int))=false:=decide_eq_false (by omega)
  have hd2:decide (a < -8)=false:=decide_eq_false (by omega)
  clear hb hA hr hcell hB hnn hlt
  go_enter Tryz.func104,Tryz.ntmps104
  go_wp2_with fail
  refine (places_calls (some ad) n c a s h0 h1 h8 hn (by omega) _).mono ?_
  rintro e w' ⟨rfl,rfl⟩
  go_wp2_with fail
  go_loopg [7,10] 9 (fun kq v7 v10 w' => ∃(i j:Int),v7 = .int .u64 j∧v10 = .int .i64 i∧Aside0 (a≤i∧i≤a+s∧(kq:Int)=9 - (i - a)∧j=le ((bs.drop a.toNat).take (i - a).toNat))∧w'=w)
  case atStart=>exact⟨a,0,rfl,rfl,⟨by omega,by omega,by omega,by simp[le]⟩,rfl⟩
  case round=>
    obtain⟨i,j,rfl,rfl,HI,rfl⟩:=hrel
    by_cases hlt:i<a+s
    · have h1:=HI.out
      have h2:i.toNat<bs.length:=by have:=HN.out;omega
      obtain⟨x,hx⟩ : ∃x,bs[i.toNat]? = some x:=⟨_,List.getElem?_eq_getElem h2⟩
      have hc:wr.cell? (ad.add i.toNat)=some (.int .u8 x):=HC.out _ _ (by rw[List.getElem?_map,hx];rfl)
      obtain⟨hx0,hx1⟩:=HB.out.at hx
      have hi0:0≤i:=by omega
      have hin:i<(n:Int):=by omega
      have hia:0≤i - a:=by omega
      have hib:i - a<8:=by omega
      have HX:=Aside0.mk hx
      clear h1 h2 hx
      go_wp2_with fail
      go_roundg (gk - 1)
      case measure=>have:=HI.out;omega
      case rel=>
        obtain⟨g1,g2,g3,g4⟩:=HI.out
        refine⟨i+1,_,rfl,rfl,⟨by omega,by omega,by omega,?_⟩,rfl⟩
        have e8:(8*(i - a)).toNat=8*(i - a).toNat:=by omega
        have ed:(bs.drop a.toNat)[(i - a).toNat]? = some x:=by
          rw[List.getElem?_drop,show a.toNat+(i - a).toNat=i.toNat from by omega];exact HX.out
        obtain⟨b1,b2⟩:=le_bound ((bs.drop a.toNat).take (i - a).toNat) ((HB.out.drop _).take _)
        have hl:((bs.drop a.toNat).take (i - a).toNat).length=(i - a).toNat:=by
          have:=(List.getElem?_eq_some_iff.1 ed).1
          rw[List.length_take];omega
        rw[hl] at b2
        rw[e8,show (i+1 - a).toNat=(i - a).toNat+1 from by omega,le_snoc ed,g4,or_step _ _ _ (by omega) b1 b2 hx0 hx1]
    · have HI2:=Aside0.mk (show i=a+s by have:=HI.out;omega)
      have hn2:decide (i<a+s)=false:=decide_eq_false hlt
      go_wp2_with fail
      go_ret
      obtain⟨g1,g2,g3,g4⟩:=HI.out
      rw[show (i - a).toNat=s.toNat from by have:=HI2.out;omega] at g4
      exact⟨by simp[g4],rfl⟩
def leB:Nat→Int→List Int
  | 0,_=>[]
  | d+1,n=>n % 256 :: leB d (n / 256)
theorem leB_length : ∀(d:Nat) (n:Int),(leB d n).length=d
  | 0,_=>rfl
  | d+1,n=>by simp[leB,leB_length d]
theorem leB_isB : ∀(d:Nat) (n:Int),IsB (leB d n)
  | 0,_=>IsB.nil
  | d+1,n=>fun x h=>by
    rcases List.mem_cons.1 h with rfl | h
    · omega
    · exact leB_isB d _ x h
theorem emod_step (n p:Int)(hp:0<p):n % 256+256*(n / 256 % p)=n % (p*256):=by
  have h1:n=256*(n / 256)+n % 256:=(Int.mul_ediv_add_emod n 256).symm
  have h2:n / 256=p*(n / 256 / p)+n / 256 % p:=(Int.mul_ediv_add_emod _ p).symm
  have h3:=Int.emod_nonneg (n / 256) (show p≠0 by omega)
  have h4:=Int.emod_lt_of_pos (n / 256) hp
  have e:n=(n % 256+256*(n / 256 % p))+(p*256)*(n / 256 / p):=by
    have:256*(p*(n / 256 / p))=(p*256)*(n / 256 / p):=by rw[←Int.mul_assoc,Int.mul_comm 256 p]
    omega
  have e2:n % (p*256)=(n % 256+256*(n / 256 % p)) % (p*256):=by
    conv=>lhs;rw[e]
    exact Int.add_mul_emod_self_left _ _ _
  rw[e2]
  exact (Int.emod_eq_of_lt (by omega) (by omega)).symm
theorem le_leB : ∀(d:Nat) (n:Int),le (leB d n)=n % 256 ^ d
  | 0,n=>by simp[leB,le]
  | d+1,n=>by
    simp only[leB,le,le_leB d]
    rw[Int.pow_succ]
    exact emod_step n _ (Int.pow_pos (by omega))
theorem leB_snoc : ∀(d:Nat) (n:Int),leB (d+1) n=leB d n++[n / 256 ^ d % 256]
  | 0,n=>by simp[leB]
  | d+1,n=>by
    rw[leB,leB_snoc d (n / 256),leB]
    simp only[List.cons_append,List.cons.injEq,true_and]
    rw[Int.ediv_ediv_of_nonneg (by omega),Int.pow_succ,Int.mul_comm]
def putL (bs:List Int)(a d:Nat)(n:Int):List Int:=bs.take a++(leB d n++bs.drop (a+d))
theorem putL_zero (bs:List Int)(a:Nat)(n:Int):putL bs a 0 n=bs:=by simp[putL,leB]
theorem putL_length (bs:List Int)(a d:Nat)(n:Int)(h:a+d≤bs.length):(putL bs a d n).length=bs.length:=by
  simp only[putL,List.length_append,List.length_take,List.length_drop,leB_length];omega
theorem putL_isB {bs:List Int}(h:IsB bs)(a d:Nat)(n:Int):IsB (putL bs a d n):=(h.take a).append ((leB_isB d n).append (h.drop _))
theorem putL_step (bs:List Int)(a d:Nat)(n:Int)(h:a+d<bs.length):(putL bs a d n).set (a+d) (n / 256 ^ d % 256)=putL bs a (d+1) n:=by
  unfold putL
  have h1:(bs.take a).length=a:=by rw[List.length_take];omega
  rw[List.set_append_right _ _ (by omega),h1,List.set_append_right _ _ (by rw[leB_length];omega),leB_length,leB_snoc]
  rw[show a+d - a - d=0 from by omega,List.drop_eq_getElem_cons h,List.set_cons_zero]
  simp[List.append_assoc,Nat.add_assoc]
theorem put_calls (v:Value)(bs:List Int)(a s m:Int)(h0:0≤a)(h1:1≤s)(h8:s≤8)(hn:a+s≤bs.length)(hm0:0≤m)(w:World)(hb:BS w v bs) :
    Calls Tryz.prog 158 #[v,.int .i64 a,.int .i64 s,.int .u64 m] w fun e w' => ∃v',e = .returned v'∧BS w' v' (putL bs a.toNat s.toNat m)∧Below w.heap.size w w':=by
  obtain⟨A,c,rfl,hA,hr⟩:=Rd.form hb
  have hm:=hb.2.1
  have HBS:=Aside0.mk hb
  obtain⟨n,hnn⟩ : ∃n,bs.length=n:=⟨_,rfl⟩
  have HN:=Aside0.mk hnn
  clear hb hA hr
  rw[hnn] at hn hm ⊢
  have hd1:decide (a≥(n:Int))=false:=decide_eq_false (by omega)
  have hd2:decide (a < -8)=false:=decide_eq_false (by omega)
  clear hnn
  go_enter Tryz.func158,Tryz.ntmps158
  go_wp2_with fail
  have hcl:=clone_bytes (.slice A n c) n (bs.map (.int .u8)) w (by have:=HBS.out;unfold BS at this;rw[HN.out] at this;exact this) (fun u hu=>by obtain⟨x,_,rfl⟩:=List.mem_map.1 hu;rfl)
  refine hcl.mono ?_
  clear hcl
  rintro e w1 ⟨v1,rfl,ho,hB⟩
  obtain⟨g,c1,rfl,hg,_⟩:=ho.form (by omega)
  have HO:=Aside0.mk ho
  have HB:=Aside0.mk hB
  have HG:=Aside0.mk hg
  clear ho hB hg
  go_wp2_with fail
  refine (places_calls A n c a s h0 h1 h8 hn (by omega) _).mono ?_
  rintro e w' ⟨rfl,rfl⟩
  go_wp2_with fail
  go_loopg [12] 9 (fun kq v12 w' => ∃(i:Int),v12 = .int .i64 i∧Aside0 (a≤i∧i≤a+s∧(kq:Int)=9 - (i - a))∧Aside0 (w'.ownsRow w.heap.size 5 1 (.slice (some ⟨g,0,none⟩) n c1) n ((putL bs a.toNat (i - a).toNat m).map (.int .u8)))∧Aside0 (Below w.heap.size w w'))
  case atStart=>exact⟨a,rfl,⟨by omega,by omega,by omega⟩,⟨by rw[show (a - a).toNat=0 from by omega,putL_zero];exact HO.out⟩,HB⟩
  case round=>
    obtain⟨i,rfl,HI,HR,HB1⟩:=hrel
    by_cases hlt:i<a+s
    · have g1:=HI.out
      obtain⟨x,hx⟩ : ∃x,(putL bs a.toNat (i - a).toNat m)[i.toNat]? = some x:=⟨_,List.getElem?_eq_getElem (by rw[putL_length _ _ _ _ (by have:=HN.out;omega)];have:=HN.out;omega)⟩
      have hc:wr.cell? ⟨g,i.toNat,none⟩=some (.int .u8 x):=by rw[HR.out.cellAt _ (by omega),List.getElem?_map,hx];rfl
      have hf:wr.frozen? ⟨g,i.toNat,none⟩=false:=HR.out.frozenAt _
      have hi0:0≤i:=by omega
      have hin:i<(n:Int):=by omega
      have hia:0≤i - a:=by omega
      have hib:i - a<8:=by omega
      clear g1 hx
      go_wp2_with fail
      go_roundg (gk - 1)
      case measure=>have:=HI.out;omega
      case rel=>
        have g1:=HI.out
        refine⟨i+1,rfl,⟨by omega,by omega,by omega⟩,⟨?_⟩,⟨HB1.out.setCell HG.out _⟩⟩
        have e8:(8*(i - a)).toNat=8*(i - a).toNat:=by omega
        have:=(HR.out.stored i.toNat (.int .u8 (m / 2 ^ (8*(i - a)).toNat % 256))).1
        rw[←List.map_set,e8,pow_8,show i.toNat=a.toNat+(i - a).toNat from by omega,putL_step _ _ _ _ (by have:=HN.out;omega)] at this
        rw[e8,pow_8,show (i+1 - a).toNat=(i - a).toNat+1 from by omega]
        rw[show i.toNat=a.toNat+(i - a).toNat from by omega]
        exact this
    · have HI2:=Aside0.mk (show i=a+s by have:=HI.out;omega)
      have hn2:decide (i<a+s)=false:=decide_eq_false hlt
      go_wp2_with fail
      go_ret
      refine⟨_,rfl,?_,HB1.out⟩
      have:=HR.out
      rw[show (i - a).toNat=s.toNat from by have:=HI2.out;omega] at this
      unfold BS
      rw[putL_length _ _ _ _ (by have:=HN.out;omega),HN.out]
      exact Rd.of_own this hm
end Go.Proofs.YtaplpeoikebedaaGreatDoor.Cell
