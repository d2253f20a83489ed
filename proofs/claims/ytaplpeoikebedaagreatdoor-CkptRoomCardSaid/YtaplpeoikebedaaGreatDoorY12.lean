/- Joined texts: Del. No condition but what each says. -/
import Derived.Test.YtaplpeoikebedaaGreatDoorY3
import Derived.Test.YtaplpeoikebedaaGreatDoorY11
import Derived.Deep.RegionLaw
import Derived.Lib.SliceRun
import Derived.Laws.IdiomCopy
set_option maxHeartbeats 8000000
set_option maxRecDepth 100000
set_option linter.unusedVariables false
set_option linter.unusedSimpArgs false
namespace Go.Proofs.YtaplpeoikebedaaGreatDoor.Del
open Go.RowKit YtaplpeoikebedaaGreatDoorW.PrintWords YtaplpeoikebedaaGreatDoorW.PrintLast YtaplpeoikebedaaGreatDoorW.PrintMore
open See Mem Clone Rw
theorem clear_one {P:Program}(w:World)(t e ty:TypeId)(z:Value)(zs:List Value)(ht:P.underlying t=some (.slice e))(hv : ∀w,(zeroValue e).run P w = .ok z w)(hz:z.cells.toList=zs)(h1 : ∀u∈zs,u.oneCell'=true)(b o c:Nat)
    (hc : ∀j,j<zs.length→(w.cell? ⟨b,o+j,none⟩).isSome=true) (hf : ∀j,j<zs.length→w.frozen? ⟨b,o+j,none⟩=false) :
    (Builtin.clear_ #[t] ty #[.slice (some ⟨b,o,none⟩) 1 c]).run P w = .ok (.tuple #[]) (w.setCells b o zs):=by
  have hzc:(Builtin.zeroCells z.cells 1).toList=zs:=by
    rw[←hz]
    unfold Builtin.zeroCells
    apply List.ext_getElem
    · simp
    · intro i h1 h2
      simp at h1 h2 ⊢
      simp[Nat.mod_eq_of_lt h2,h2]
  have hst:=run_storeCells_cells (P:=P) b o zs 0 w (by simpa using hc) (by simpa using hf) h1
  simp only[Nat.add_zero] at hst
  simp[Builtin.clear_,run_underlying ht,hv,hzc,hst]
theorem setL_past : ∀(vs:List Value) (xs:List Value) (o:Nat),xs.length≤o→setL xs o vs=xs
  | [],xs,o,_=>rfl
  | v :: vs,xs,o,h=>by
    unfold setL
    rw[List.set_eq_of_length_le h,setL_past vs xs (o+1) (by omega)]
theorem own_cells {w:World}{base e size n g cap:Nat}{xs:List Value}(h:w.ownsRow base e size (.slice (some ⟨g,0,none⟩) n cap) n xs) :
    (∀j,j<cap*size→(w.cell? ⟨g,j,none⟩).isSome=true)∧(∀j,w.frozen? ⟨g,j,none⟩=false)∧(∀j u,xs[j]? = some u→w.cell? ⟨g,j,none⟩=some u)∧n≤cap∧cap≤maxLen:=by
  rcases h.2 with ⟨h2,_⟩ | ⟨g',cap',cur,hv,hg,hh,hnc,hcm,hsz,htk⟩
  · cases h2
  · simp at hv
    obtain⟨rfl,rfl⟩:=hv
    refine⟨fun j hj => ?_,fun j=>by simp[World.frozen?,hh],fun j u hj => ?_,hnc,hcm⟩
    · simp only[World.cell?,hh]
      simp[hsz,hj]
    · have hlt:j<n*size:=by have:=(List.getElem?_eq_some_iff.1 hj).1;rw[h.1] at this;exact this
      rw[h.cellAt j hlt];exact hj
theorem setCells_other {w:World}{g k:Nat}(hk:k≠g) : ∀(vs:List Value) (o:Nat),(w.setCells g o vs).heap[k]? = w.heap[k]? := by
  intro vs
  induction vs generalizing w with
  | nil=>intro o;rfl
  | cons v vs ih=>
    intro o
    show ((w.setCell ⟨g,o,none⟩ v).setCells g (o+1) vs).heap[k]? = _
    rw[ih,Below.heap_setCell _ _ _ _ (by exact hk)]
theorem setCells_size {w:World}{g:Nat} : ∀(vs:List Value) (o:Nat),(w.setCells g o vs).heap.size=w.heap.size:=by
  intro vs
  induction vs generalizing w with
  | nil=>intro o;rfl
  | cons v vs ih=>
    intro o
    show ((w.setCell ⟨g,o,none⟩ v).setCells g (o+1) vs).heap.size=_
    rw[ih];simp[World.setCell]
theorem flatten_cut (xs:List Value)(n i size:Nat)(h:xs.length=n*size)(hi:i<n) :
    (setL xs (i*size) (xs.drop ((i+1)*size))).take ((n - 1)*size)=xs.take (i*size)++xs.drop ((i+1)*size):=by
  have h1:(i+1)*size≤n*size:=Nat.mul_le_mul_right _ hi
  have h2:(i+1)*size=i*size+size:=by rw[Nat.add_mul];omega
  have h3:(n - 1)*size+size=n*size:=by
    obtain⟨m,rfl⟩ : ∃m,n=m+1:=⟨n - 1,by omega⟩
    rw[Nat.add_mul];simp
  have hl:(xs.drop ((i+1)*size)).length=n*size - (i+1)*size:=by rw[List.length_drop,h]
  rw[setL_eq _ _ _ (by rw[hl,h];omega),←List.append_assoc,List.take_append_of_le_length (by rw[List.length_append,hl,List.length_take,h];omega)]
  exact List.take_of_length_le (by rw[List.length_append,hl,List.length_take,h];omega)
theorem dinfo_frames:(Tryz.prog.info? 157).map (fun i=>(i.zero,i.size,i.bytes))=some (some (.agg #[.int .i64 0,.int .i64 0,.slice none 0 0]),3,40):=by kernel_rfl
theorem dzero_frames (w:World):(zeroValue 157).run Tryz.prog w = .ok (.agg #[.int .i64 0,.int .i64 0,.slice none 0 0]) w:=by kernel_rfl
theorem del_frames (base g n cap i j:Nat)(xs:List Value)(w:World)(hown:w.ownsRow base 157 3 (.slice (some ⟨g,0,none⟩) n cap) n xs)(h1 : ∀u∈xs,u.oneCell'=true)(hi:i<n)(hj:j=i+1) :
    Calls Tryz.prog 147 #[.slice (some ⟨g,0,none⟩) n cap,.int .i64 i,.int .i64 j] w fun e w'=>e = .returned (.slice (some ⟨g,0,none⟩) (n - 1) cap)∧w'.ownsRow base 157 3 (.slice (some ⟨g,0,none⟩) (n - 1) cap) (n - 1) (xs.take (i*3)++xs.drop ((i+1)*3))∧w.grownBy w' (some g)∧w'.heap.size=w.heap.size:=by
  obtain⟨i0,hi0,hzz⟩:=Option.map_eq_some_iff.1 dinfo_frames
  simp only[Prod.mk.injEq] at hzz
  obtain⟨hz0,hz1,hz2⟩:=hzz
  obtain⟨hcs,hfz,hrd,hnc,hcm⟩:=own_cells hown
  have hlen:=hown.1
  have hcm2:cap≤9223372036854775807:=by unfold maxLen at hcm;exact hcm
  obtain⟨news,hnews⟩ : ∃news,news=xs.drop ((i+1)*3):=⟨_,rfl⟩
  have hnl:news.length=(n - j)*3:=by rw[hnews,List.length_drop,hlen];omega
  obtain⟨A,hA,hsrc⟩ : ∃A:Addr,(if cap=j then (some ⟨g,0,none⟩:Option Addr) else some ⟨g,j*3,none⟩)=some A∧Hid (∀t u,news[t]? = some u→w.drew.cell? (A.add t)=some u):=by
    by_cases h:cap=j
    · refine⟨⟨g,0,none⟩,by simp[h],fun t u hu => ?_⟩
      have h0:news.length=0:=by rw[hnl];omega
      rw[List.length_eq_zero_iff.1 h0] at hu
      simp at hu
    · refine⟨⟨g,j*3,none⟩,by simp[h],fun t u hu => ?_⟩
      rw[Addr.add_lit]
      refine hrd (j*3+t) u ?_
      rw[hnews,List.getElem?_drop] at hu
      rw[hj];exact hu
  have s1:Hid (news.length=(n - j)*3):=hnl
  have s2:Hid (∀u∈news,u.oneCell'=true):=fun u hu=>h1 u (by rw[hnews] at hu;exact List.mem_of_mem_drop hu)
  have s3:Hid (∀t,t<news.length→(w.drew.cell? ⟨g,0+i*3+t,none⟩).isSome=true∧w.drew.frozen? ⟨g,0+i*3+t,none⟩=false):=by
    intro t ht
    rw[hnl] at ht
    exact⟨hcs _ (by have:(i+(n - j))*3≤cap*3:=Nat.mul_le_mul_right _ (by omega);omega),hfz _⟩
  obtain⟨W1,hW1⟩ : ∃W1,W1=w.drew.setCells g (0+i*3) news:=⟨_,rfl⟩
  have hO1:W1.ownsRow base 157 3 (.slice (some ⟨g,0,none⟩) n cap) n (setL xs (i*3) news)∧w.grownBy W1 (some g):=by
    rw[hW1,Nat.zero_add]
    obtain⟨o1,o2⟩:=own_setCells news (i*3) w.drew xs hown
    exact⟨o1,o2.os,o2.tape,o2.output,o2.size,o2.block⟩
  obtain⟨hcs1,hfz1,_,_,_⟩:=own_cells hO1.1
  have hcl : ∀ty,(Builtin.clear_ #[161] ty #[.slice (some ⟨g,(i+(n - j))*3,none⟩) (n - (i+(n - j))) (cap - (i+(n - j)))]).run Tryz.prog W1 = .ok (.tuple #[]) (W1.setCells g ((i+(n - j))*3) [.int .i64 0,.int .i64 0,.slice none 0 0]):=fun ty=>by
    rw[show n - (i+(n - j))=1 from by omega]
    exact clear_one W1 161 157 ty (.agg #[.int .i64 0,.int .i64 0,.slice none 0 0]) [.int .i64 0,.int .i64 0,.slice none 0 0] Tryz.underlying161 dzero_frames rfl (by intro u hu;simp at hu;rcases hu with rfl | rfl | rfl<;>rfl) g _ _ (fun t ht=>hcs1 _ (by simp at ht;have:(i+(n - j)+1)*3≤cap*3:=Nat.mul_le_mul_right _ (by omega);omega)) (fun t ht=>hfz1 _)
  have hW:Hid (W1=w.drew.setCells g (0+i*3) news):=hW1
  have HO1:=Aside0.mk hO1
  have HN:=Aside0.mk hnews
  have HL:=Aside0.mk hlen
  have HJ:=Aside0.mk hj
  have hij:i<j:=by omega
  have hij2:i≤j:=by omega
  have hjn:j≤n:=by omega
  have hic:i≤cap:=by omega
  have hjc:j≤cap:=by omega
  clear hW1 hO1 hown h1 hcs hfz hrd hcs1 hfz1 hnews hlen hnl hj hcm
  go_enter Tryz.func147,Tryz.ntmps147
  go_wp2_with fail
  go_region_law (refine step_append_room rfl (.tmp 22) (.tmp 25) 161 rfl 157 i0 3 Tryz.underlying161 hi0 hz1 g 0 i cap (by simp[Act.eval,Act.put]) A (n - j) (cap - j) news (by simp[Act.eval,Act.put]) s1.out hsrc.out s2.out (by omega) s3.out ?_;rw[←hW.out])
  go_wp2
  go_ret
  obtain⟨o1,o2⟩:=HO1.out
  have hjj:=HJ.out
  obtain⟨o3,o4⟩:=own_setCells [.int .i64 0,.int .i64 0,.slice none 0 0] ((i+(n - j))*3) W1 _ (own_cut o1 (show n - 1≤n by omega))
  refine⟨by rw[show i+(n - j)=n - 1 from by omega];simp,?_,?_,?_⟩
  · rw[setL_past _ _ _ (by rw[List.length_take,setL_len,HL.out,show i+(n - j)=n - 1 from by omega];omega),HN.out,flatten_cut xs n i 3 HL.out hi] at o3
    exact o3
  · exact o2.trans o4
  · rw[setCells_size,hW.out,setCells_size];rfl
theorem dinfo_dirties:(Tryz.prog.info? 288).map (fun i=>(i.zero,i.size,i.bytes))=some (some (.agg #[.int .i64 0,.int .i64 0]),2,16):=by kernel_rfl
theorem dzero_dirties (w:World):(zeroValue 288).run Tryz.prog w = .ok (.agg #[.int .i64 0,.int .i64 0]) w:=by kernel_rfl
theorem del_dirties (base g n cap i j:Nat)(xs:List Value)(w:World)(hown:w.ownsRow base 288 2 (.slice (some ⟨g,0,none⟩) n cap) n xs)(h1 : ∀u∈xs,u.oneCell'=true)(hi:i<n)(hj:j=i+1) :
    Calls Tryz.prog 200 #[.slice (some ⟨g,0,none⟩) n cap,.int .i64 i,.int .i64 j] w fun e w'=>e = .returned (.slice (some ⟨g,0,none⟩) (n - 1) cap)∧w'.ownsRow base 288 2 (.slice (some ⟨g,0,none⟩) (n - 1) cap) (n - 1) (xs.take (i*2)++xs.drop ((i+1)*2))∧w.grownBy w' (some g)∧w'.heap.size=w.heap.size:=by
  obtain⟨i0,hi0,hzz⟩:=Option.map_eq_some_iff.1 dinfo_dirties
  simp only[Prod.mk.injEq] at hzz
  obtain⟨hz0,hz1,hz2⟩:=hzz
  obtain⟨hcs,hfz,hrd,hnc,hcm⟩:=own_cells hown
  have hlen:=hown.1
  have hcm2:cap≤9223372036854775807:=by unfold maxLen at hcm;exact hcm
  obtain⟨news,hnews⟩ : ∃news,news=xs.drop ((i+1)*2):=⟨_,rfl⟩
  have hnl:news.length=(n - j)*2:=by rw[hnews,List.length_drop,hlen];omega
  obtain⟨A,hA,hsrc⟩ : ∃A:Addr,(if cap=j then (some ⟨g,0,none⟩:Option Addr) else some ⟨g,j*2,none⟩)=some A∧Hid (∀t u,news[t]? = some u→w.drew.cell? (A.add t)=some u):=by
    by_cases h:cap=j
    · refine⟨⟨g,0,none⟩,by simp[h],fun t u hu => ?_⟩
      have h0:news.length=0:=by rw[hnl];omega
      rw[List.length_eq_zero_iff.1 h0] at hu
      simp at hu
    · refine⟨⟨g,j*2,none⟩,by simp[h],fun t u hu => ?_⟩
      rw[Addr.add_lit]
      refine hrd (j*2+t) u ?_
      rw[hnews,List.getElem?_drop] at hu
      rw[hj];exact hu
  have s1:Hid (news.length=(n - j)*2):=hnl
  have s2:Hid (∀u∈news,u.oneCell'=true):=fun u hu=>h1 u (by rw[hnews] at hu;exact List.mem_of_mem_drop hu)
  have s3:Hid (∀t,t<news.length→(w.drew.cell? ⟨g,0+i*2+t,none⟩).isSome=true∧w.drew.frozen? ⟨g,0+i*2+t,none⟩=false):=by
    intro t ht
    rw[hnl] at ht
    exact⟨hcs _ (by have:(i+(n - j))*2≤cap*2:=Nat.mul_le_mul_right _ (by omega);omega),hfz _⟩
  obtain⟨W1,hW1⟩ : ∃W1,W1=w.drew.setCells g (0+i*2) news:=⟨_,rfl⟩
  have hO1:W1.ownsRow base 288 2 (.slice (some ⟨g,0,none⟩) n cap) n (setL xs (i*2) news)∧w.grownBy W1 (some g):=by
    rw[hW1,Nat.zero_add]
    obtain⟨o1,o2⟩:=own_setCells news (i*2) w.drew xs hown
    exact⟨o1,o2.os,o2.tape,o2.output,o2.size,o2.block⟩
  obtain⟨hcs1,hfz1,_,_,_⟩:=own_cells hO1.1
  have hcl : ∀ty,(Builtin.clear_ #[158] ty #[.slice (some ⟨g,(i+(n - j))*2,none⟩) (n - (i+(n - j))) (cap - (i+(n - j)))]).run Tryz.prog W1 = .ok (.tuple #[]) (W1.setCells g ((i+(n - j))*2) [.int .i64 0,.int .i64 0]):=fun ty=>by
    rw[show n - (i+(n - j))=1 from by omega]
    exact clear_one W1 158 288 ty (.agg #[.int .i64 0,.int .i64 0]) [.int .i64 0,.int .i64 0] Tryz.underlying158 dzero_dirties rfl (by intro u hu;simp at hu;rcases hu with rfl | rfl<;>rfl) g _ _ (fun t ht=>hcs1 _ (by simp at ht;have:(i+(n - j)+1)*2≤cap*2:=Nat.mul_le_mul_right _ (by omega);omega)) (fun t ht=>hfz1 _)
  have hW:Hid (W1=w.drew.setCells g (0+i*2) news):=hW1
  have HO1:=Aside0.mk hO1
  have HN:=Aside0.mk hnews
  have HL:=Aside0.mk hlen
  have HJ:=Aside0.mk hj
  have hij:i<j:=by omega
  have hij2:i≤j:=by omega
  have hjn:j≤n:=by omega
  have hic:i≤cap:=by omega
  have hjc:j≤cap:=by omega
  clear hW1 hO1 hown h1 hcs hfz hrd hcs1 hfz1 hnews hlen hnl hj hcm
  go_enter Tryz.func200,Tryz.ntmps200
  go_wp2_with fail
  go_region_law (refine step_append_room rfl (.tmp 22) (.tmp 25) 158 rfl 288 i0 2 Tryz.underlying158 hi0 hz1 g 0 i cap (by simp[Act.eval,Act.put]) A (n - j) (cap - j) news (by simp[Act.eval,Act.put]) s1.out hsrc.out s2.out (by omega) s3.out ?_;rw[←hW.out])
  go_wp2
  go_ret
  obtain⟨o1,o2⟩:=HO1.out
  have hjj:=HJ.out
  obtain⟨o3,o4⟩:=own_setCells [.int .i64 0,.int .i64 0] ((i+(n - j))*2) W1 _ (own_cut o1 (show n - 1≤n by omega))
  refine⟨by rw[show i+(n - j)=n - 1 from by omega];simp,?_,?_,?_⟩
  · rw[setL_past _ _ _ (by rw[List.length_take,setL_len,HL.out,show i+(n - j)=n - 1 from by omega];omega),HN.out,flatten_cut xs n i 2 HL.out hi] at o3
    exact o3
  · exact o2.trans o4
  · rw[setCells_size,hW.out,setCells_size];rfl
theorem dinfo_entries:(Tryz.prog.info? 169).map (fun i=>(i.zero,i.size,i.bytes))=some (some (.agg #[.int .i64 0,.int .i64 0]),2,16):=by kernel_rfl
theorem dzero_entries (w:World):(zeroValue 169).run Tryz.prog w = .ok (.agg #[.int .i64 0,.int .i64 0]) w:=by kernel_rfl
theorem del_entries (base g n cap i j:Nat)(xs:List Value)(w:World)(hown:w.ownsRow base 169 2 (.slice (some ⟨g,0,none⟩) n cap) n xs)(h1 : ∀u∈xs,u.oneCell'=true)(hi:i<n)(hj:j=i+1) :
    Calls Tryz.prog 215 #[.slice (some ⟨g,0,none⟩) n cap,.int .i64 i,.int .i64 j] w fun e w'=>e = .returned (.slice (some ⟨g,0,none⟩) (n - 1) cap)∧w'.ownsRow base 169 2 (.slice (some ⟨g,0,none⟩) (n - 1) cap) (n - 1) (xs.take (i*2)++xs.drop ((i+1)*2))∧w.grownBy w' (some g)∧w'.heap.size=w.heap.size:=by
  obtain⟨i0,hi0,hzz⟩:=Option.map_eq_some_iff.1 dinfo_entries
  simp only[Prod.mk.injEq] at hzz
  obtain⟨hz0,hz1,hz2⟩:=hzz
  obtain⟨hcs,hfz,hrd,hnc,hcm⟩:=own_cells hown
  have hlen:=hown.1
  have hcm2:cap≤9223372036854775807:=by unfold maxLen at hcm;exact hcm
  obtain⟨news,hnews⟩ : ∃news,news=xs.drop ((i+1)*2):=⟨_,rfl⟩
  have hnl:news.length=(n - j)*2:=by rw[hnews,List.length_drop,hlen];omega
  obtain⟨A,hA,hsrc⟩ : ∃A:Addr,(if cap=j then (some ⟨g,0,none⟩:Option Addr) else some ⟨g,j*2,none⟩)=some A∧Hid (∀t u,news[t]? = some u→w.drew.cell? (A.add t)=some u):=by
    by_cases h:cap=j
    · refine⟨⟨g,0,none⟩,by simp[h],fun t u hu => ?_⟩
      have h0:news.length=0:=by rw[hnl];omega
      rw[List.length_eq_zero_iff.1 h0] at hu
      simp at hu
    · refine⟨⟨g,j*2,none⟩,by simp[h],fun t u hu => ?_⟩
      rw[Addr.add_lit]
      refine hrd (j*2+t) u ?_
      rw[hnews,List.getElem?_drop] at hu
      rw[hj];exact hu
  have s1:Hid (news.length=(n - j)*2):=hnl
  have s2:Hid (∀u∈news,u.oneCell'=true):=fun u hu=>h1 u (by rw[hnews] at hu;exact List.mem_of_mem_drop hu)
  have s3:Hid (∀t,t<news.length→(w.drew.cell? ⟨g,0+i*2+t,none⟩).isSome=true∧w.drew.frozen? ⟨g,0+i*2+t,none⟩=false):=by
    intro t ht
    rw[hnl] at ht
    exact⟨hcs _ (by have:(i+(n - j))*2≤cap*2:=Nat.mul_le_mul_right _ (by omega);omega),hfz _⟩
  obtain⟨W1,hW1⟩ : ∃W1,W1=w.drew.setCells g (0+i*2) news:=⟨_,rfl⟩
  have hO1:W1.ownsRow base 169 2 (.slice (some ⟨g,0,none⟩) n cap) n (setL xs (i*2) news)∧w.grownBy W1 (some g):=by
    rw[hW1,Nat.zero_add]
    obtain⟨o1,o2⟩:=own_setCells news (i*2) w.drew xs hown
    exact⟨o1,o2.os,o2.tape,o2.output,o2.size,o2.block⟩
  obtain⟨hcs1,hfz1,_,_,_⟩:=own_cells hO1.1
  have hcl : ∀ty,(Builtin.clear_ #[72] ty #[.slice (some ⟨g,(i+(n - j))*2,none⟩) (n - (i+(n - j))) (cap - (i+(n - j)))]).run Tryz.prog W1 = .ok (.tuple #[]) (W1.setCells g ((i+(n - j))*2) [.int .i64 0,.int .i64 0]):=fun ty=>by
    rw[show n - (i+(n - j))=1 from by omega]
    exact clear_one W1 72 169 ty (.agg #[.int .i64 0,.int .i64 0]) [.int .i64 0,.int .i64 0] Tryz.underlying72 dzero_entries rfl (by intro u hu;simp at hu;rcases hu with rfl | rfl<;>rfl) g _ _ (fun t ht=>hcs1 _ (by simp at ht;have:(i+(n - j)+1)*2≤cap*2:=Nat.mul_le_mul_right _ (by omega);omega)) (fun t ht=>hfz1 _)
  have hW:Hid (W1=w.drew.setCells g (0+i*2) news):=hW1
  have HO1:=Aside0.mk hO1
  have HN:=Aside0.mk hnews
  have HL:=Aside0.mk hlen
  have HJ:=Aside0.mk hj
  have hij:i<j:=by omega
  have hij2:i≤j:=by omega
  have hjn:j≤n:=by omega
  have hic:i≤cap:=by omega
  have hjc:j≤cap:=by omega
  clear hW1 hO1 hown h1 hcs hfz hrd hcs1 hfz1 hnews hlen hnl hj hcm
  go_enter Tryz.func215,Tryz.ntmps215
  go_wp2_with fail
  go_region_law (refine step_append_room rfl (.tmp 22) (.tmp 25) 72 rfl 169 i0 2 Tryz.underlying72 hi0 hz1 g 0 i cap (by simp[Act.eval,Act.put]) A (n - j) (cap - j) news (by simp[Act.eval,Act.put]) s1.out hsrc.out s2.out (by omega) s3.out ?_;rw[←hW.out])
  go_wp2
  go_ret
  obtain⟨o1,o2⟩:=HO1.out
  have hjj:=HJ.out
  obtain⟨o3,o4⟩:=own_setCells [.int .i64 0,.int .i64 0] ((i+(n - j))*2) W1 _ (own_cut o1 (show n - 1≤n by omega))
  refine⟨by rw[show i+(n - j)=n - 1 from by omega];simp,?_,?_,?_⟩
  · rw[setL_past _ _ _ (by rw[List.length_take,setL_len,HL.out,show i+(n - j)=n - 1 from by omega];omega),HN.out,flatten_cut xs n i 2 HL.out hi] at o3
    exact o3
  · exact o2.trans o4
  · rw[setCells_size,hW.out,setCells_size];rfl
theorem dinfo_txns:(Tryz.prog.info? 102).map (fun i=>(i.zero,i.size,i.bytes))=some (some (.agg #[.int .i64 0,.int .i64 0,.int .i64 0,.int .i64 0]),4,32):=by kernel_rfl
theorem dzero_txns (w:World):(zeroValue 102).run Tryz.prog w = .ok (.agg #[.int .i64 0,.int .i64 0,.int .i64 0,.int .i64 0]) w:=by kernel_rfl
theorem del_txns (base g n cap i j:Nat)(xs:List Value)(w:World)(hown:w.ownsRow base 102 4 (.slice (some ⟨g,0,none⟩) n cap) n xs)(h1 : ∀u∈xs,u.oneCell'=true)(hi:i<n)(hj:j=i+1) :
    Calls Tryz.prog 117 #[.slice (some ⟨g,0,none⟩) n cap,.int .i64 i,.int .i64 j] w fun e w'=>e = .returned (.slice (some ⟨g,0,none⟩) (n - 1) cap)∧w'.ownsRow base 102 4 (.slice (some ⟨g,0,none⟩) (n - 1) cap) (n - 1) (xs.take (i*4)++xs.drop ((i+1)*4))∧w.grownBy w' (some g)∧w'.heap.size=w.heap.size:=by
  obtain⟨i0,hi0,hzz⟩:=Option.map_eq_some_iff.1 dinfo_txns
  simp only[Prod.mk.injEq] at hzz
  obtain⟨hz0,hz1,hz2⟩:=hzz
  obtain⟨hcs,hfz,hrd,hnc,hcm⟩:=own_cells hown
  have hlen:=hown.1
  have hcm2:cap≤9223372036854775807:=by unfold maxLen at hcm;exact hcm
  obtain⟨news,hnews⟩ : ∃news,news=xs.drop ((i+1)*4):=⟨_,rfl⟩
  have hnl:news.length=(n - j)*4:=by rw[hnews,List.length_drop,hlen];omega
  obtain⟨A,hA,hsrc⟩ : ∃A:Addr,(if cap=j then (some ⟨g,0,none⟩:Option Addr) else some ⟨g,j*4,none⟩)=some A∧Hid (∀t u,news[t]? = some u→w.drew.cell? (A.add t)=some u):=by
    by_cases h:cap=j
    · refine⟨⟨g,0,none⟩,by simp[h],fun t u hu => ?_⟩
      have h0:news.length=0:=by rw[hnl];omega
      rw[List.length_eq_zero_iff.1 h0] at hu
      simp at hu
    · refine⟨⟨g,j*4,none⟩,by simp[h],fun t u hu => ?_⟩
      rw[Addr.add_lit]
      refine hrd (j*4+t) u ?_
      rw[hnews,List.getElem?_drop] at hu
      rw[hj];exact hu
  have s1:Hid (news.length=(n - j)*4):=hnl
  have s2:Hid (∀u∈news,u.oneCell'=true):=fun u hu=>h1 u (by rw[hnews] at hu;exact List.mem_of_mem_drop hu)
  have s3:Hid (∀t,t<news.length→(w.drew.cell? ⟨g,0+i*4+t,none⟩).isSome=true∧w.drew.frozen? ⟨g,0+i*4+t,none⟩=false):=by
    intro t ht
    rw[hnl] at ht
    exact⟨hcs _ (by have:(i+(n - j))*4≤cap*4:=Nat.mul_le_mul_right _ (by omega);omega),hfz _⟩
  obtain⟨W1,hW1⟩ : ∃W1,W1=w.drew.setCells g (0+i*4) news:=⟨_,rfl⟩
  have hO1:W1.ownsRow base 102 4 (.slice (some ⟨g,0,none⟩) n cap) n (setL xs (i*4) news)∧w.grownBy W1 (some g):=by
    rw[hW1,Nat.zero_add]
    obtain⟨o1,o2⟩:=own_setCells news (i*4) w.drew xs hown
    exact⟨o1,o2.os,o2.tape,o2.output,o2.size,o2.block⟩
  obtain⟨hcs1,hfz1,_,_,_⟩:=own_cells hO1.1
  have hcl : ∀ty,(Builtin.clear_ #[51] ty #[.slice (some ⟨g,(i+(n - j))*4,none⟩) (n - (i+(n - j))) (cap - (i+(n - j)))]).run Tryz.prog W1 = .ok (.tuple #[]) (W1.setCells g ((i+(n - j))*4) [.int .i64 0,.int .i64 0,.int .i64 0,.int .i64 0]):=fun ty=>by
    rw[show n - (i+(n - j))=1 from by omega]
    exact clear_one W1 51 102 ty (.agg #[.int .i64 0,.int .i64 0,.int .i64 0,.int .i64 0]) [.int .i64 0,.int .i64 0,.int .i64 0,.int .i64 0] Tryz.underlying51 dzero_txns rfl (by intro u hu;simp at hu;rcases hu with rfl | rfl | rfl | rfl<;>rfl) g _ _ (fun t ht=>hcs1 _ (by simp at ht;have:(i+(n - j)+1)*4≤cap*4:=Nat.mul_le_mul_right _ (by omega);omega)) (fun t ht=>hfz1 _)
  have hW:Hid (W1=w.drew.setCells g (0+i*4) news):=hW1
  have HO1:=Aside0.mk hO1
  have HN:=Aside0.mk hnews
  have HL:=Aside0.mk hlen
  have HJ:=Aside0.mk hj
  have hij:i<j:=by omega
  have hij2:i≤j:=by omega
  have hjn:j≤n:=by omega
  have hic:i≤cap:=by omega
  have hjc:j≤cap:=by omega
  clear hW1 hO1 hown h1 hcs hfz hrd hcs1 hfz1 hnews hlen hnl hj hcm
  go_enter Tryz.func117,Tryz.ntmps117
  go_wp2_with fail
  go_region_law (refine step_append_room rfl (.tmp 22) (.tmp 25) 51 rfl 102 i0 4 Tryz.underlying51 hi0 hz1 g 0 i cap (by simp[Act.eval,Act.put]) A (n - j) (cap - j) news (by simp[Act.eval,Act.put]) s1.out hsrc.out s2.out (by omega) s3.out ?_;rw[←hW.out])
  go_wp2
  go_ret
  obtain⟨o1,o2⟩:=HO1.out
  have hjj:=HJ.out
  obtain⟨o3,o4⟩:=own_setCells [.int .i64 0,.int .i64 0,.int .i64 0,.int .i64 0] ((i+(n - j))*4) W1 _ (own_cut o1 (show n - 1≤n by omega))
  refine⟨by rw[show i+(n - j)=n - 1 from by omega];simp,?_,?_,?_⟩
  · rw[setL_past _ _ _ (by rw[List.length_take,setL_len,HL.out,show i+(n - j)=n - 1 from by omega];omega),HN.out,flatten_cut xs n i 4 HL.out hi] at o3
    exact o3
  · exact o2.trans o4
  · rw[setCells_size,hW.out,setCells_size];rfl
end Go.Proofs.YtaplpeoikebedaaGreatDoor.Del
