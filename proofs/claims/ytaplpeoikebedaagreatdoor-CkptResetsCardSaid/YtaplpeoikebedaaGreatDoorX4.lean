/- Joined texts: Clone, Cell, Page. No condition but what each says. -/
import Derived.Test.YtaplpeoikebedaaGreatDoorX3
set_option maxHeartbeats 8000000
set_option maxRecDepth 100000
set_option linter.unusedVariables false
set_option linter.unusedSimpArgs false
namespace Go.Proofs.YtaplpeoikebedaaGreatDoor.Clone
open Go.RowKit YtaplpeoikebedaaGreatDoorW.PrintWords YtaplpeoikebedaaGreatDoorW.PrintLast YtaplpeoikebedaaGreatDoorW.PrintMore
open See Mem
theorem info_bytes:(Tryz.prog.info? 5).map (fun i=>(i.zero,i.size,i.bytes))=some (some (.int .u8 0),1,1):=by kernel_rfl
theorem clone_bytes (v:Value)(n:Nat)(xs:List Value)(w:World)(h:Rd w 5 1 v n xs)(h1 : ∀u∈xs,u.oneCell'=true) :
    Calls Tryz.prog 95 #[v] w fun e w' => ∃v',e = .returned v'∧w'.ownsRow w.heap.size 5 1 v' n xs∧Below w.heap.size w w':=by
  obtain⟨i0,hi,hzz⟩:=Option.map_eq_some_iff.1 info_bytes
  simp only[Prod.mk.injEq] at hzz
  obtain⟨hz0,hz1,hz2⟩:=hzz
  obtain⟨A,c,rfl,hA,hr⟩:=h.form
  have hlen:=h.1
  have hmax:=h.2.1
  cases A with
  | none=>
    obtain⟨rfl,rfl⟩:=hA rfl
    obtain rfl:xs=[]:=List.eq_nil_of_length_eq_zero (by simpa using hlen)
    have hnil:=fun W:World=>Lib.run_eql_slice_nil (P:=Tryz.prog) W 93 5 none 0 0 0 0 Tryz.underlying93
    clear hA hr hlen h h1 hmax
    go_enter Tryz.func95,Tryz.ntmps95
    go_wp2
    go_ret
    exact⟨_,rfl,World.ownsRow_nil _ _ _ _,Below.refl _ _⟩
  | some ad=>
    obtain⟨hcell,_,hlt⟩:=hr ad rfl
    have hnil:=fun W:World=>Lib.run_eql_slice_nil (P:=Tryz.prog) W 93 5 (some ad) n c 0 0 Tryz.underlying93
    have HC:=Aside0.mk hcell
    have H1:=Aside0.mk h1
    have HL:=Aside0.mk hlen
    have HM:=Aside0.mk hmax
    have HLT:=Aside0.mk hlt
    clear hcell h1 hlen hmax hlt hA hr h
    go_enter Tryz.func95,Tryz.ntmps95
    go_wp2_with (at_builtin;refine wpList_append_own_at _ (by rfl) _ _ 93 (by rfl) w.heap.size 5 i0 (.int .u8 0) 1 1 Tryz.underlying93 hi hz0 hz1 hz2 rfl (by decide) _ 0 [] (by rfl) ?own ad n c xs (by rfl) HL.out ?news H1.out ?h63 ?hby ?base ?_)
    case own=>exact⟨rfl,.inr ⟨w.heap.size,0,#[],rfl,Nat.le_refl _,(by show (w.heap.push _)[w.heap.size]? = _;exact Array.getElem?_push_size),by omega,by decide,rfl,rfl⟩⟩
    case news=>
      intro j u hu
      rw[World.cell?_alloc_lt _ _ _ (by have:=HLT.out;unfold Addr.add;split<;>simpa using this)]
      exact HC.out j u hu
    case h63=>have:=HM.out;unfold maxLen;omega
    case hby=>have:=HM.out;omega
    case base=>simp
    intro v' w1 hown hg _ hat
    have HB:=Aside0.mk (pw_below_grown (below_alloc (Below.refl w.heap.size w) (Obj.cells #[] 5)) _ (below_size (below_alloc (Below.refl _ _) _)) hg (by intro k hk;injection hk with hk;exact Nat.le_of_eq hk))
    have HO:=Aside0.mk hown
    clear hown hg hat
    obtain⟨A',c',rfl,hA'⟩:=ow_slice HO.out
    clear hA'
    go_wp2
    go_ret
    exact⟨_,rfl,by simpa using HO.out,HB.out⟩
theorem info_entries:(Tryz.prog.info? 169).map (fun i=>(i.zero,i.size,i.bytes))=some (some (.agg #[.int .i64 0,.int .i64 0]),2,16):=by kernel_rfl
theorem clone_entries (v:Value)(n:Nat)(xs:List Value)(w:World)(h:Rd w 169 2 v n xs)(h1 : ∀u∈xs,u.oneCell'=true) :
    Calls Tryz.prog 146 #[v] w fun e w' => ∃v',e = .returned v'∧w'.ownsRow w.heap.size 169 2 v' n xs∧Below w.heap.size w w':=by
  obtain⟨i0,hi,hzz⟩:=Option.map_eq_some_iff.1 info_entries
  simp only[Prod.mk.injEq] at hzz
  obtain⟨hz0,hz1,hz2⟩:=hzz
  obtain⟨A,c,rfl,hA,hr⟩:=h.form
  have hlen:=h.1
  have hmax:=h.2.1
  cases A with
  | none=>
    obtain⟨rfl,rfl⟩:=hA rfl
    obtain rfl:xs=[]:=List.eq_nil_of_length_eq_zero (by simpa using hlen)
    have hnil:=fun W:World=>Lib.run_eql_slice_nil (P:=Tryz.prog) W 72 169 none 0 0 0 0 Tryz.underlying72
    clear hA hr hlen h h1 hmax
    go_enter Tryz.func146,Tryz.ntmps146
    go_wp2
    go_ret
    exact⟨_,rfl,World.ownsRow_nil _ _ _ _,Below.refl _ _⟩
  | some ad=>
    obtain⟨hcell,_,hlt⟩:=hr ad rfl
    have hnil:=fun W:World=>Lib.run_eql_slice_nil (P:=Tryz.prog) W 72 169 (some ad) n c 0 0 Tryz.underlying72
    have HC:=Aside0.mk hcell
    have H1:=Aside0.mk h1
    have HL:=Aside0.mk hlen
    have HM:=Aside0.mk hmax
    have HLT:=Aside0.mk hlt
    clear hcell h1 hlen hmax hlt hA hr h
    go_enter Tryz.func146,Tryz.ntmps146
    go_wp2_with (at_builtin;refine wpList_append_own_at _ (by rfl) _ _ 72 (by rfl) w.heap.size 169 i0 (.agg #[.int .i64 0,.int .i64 0]) 2 16 Tryz.underlying72 hi hz0 hz1 hz2 rfl (by decide) _ 0 [] (by rfl) ?own ad n c xs (by rfl) HL.out ?news H1.out ?h63 ?hby ?base ?_)
    case own=>exact⟨rfl,.inr ⟨w.heap.size,0,#[],rfl,Nat.le_refl _,(by show (w.heap.push _)[w.heap.size]? = _;exact Array.getElem?_push_size),by omega,by decide,rfl,rfl⟩⟩
    case news=>
      intro j u hu
      rw[World.cell?_alloc_lt _ _ _ (by have:=HLT.out;unfold Addr.add;split<;>simpa using this)]
      exact HC.out j u hu
    case h63=>have:=HM.out;unfold maxLen;omega
    case hby=>have:=HM.out;omega
    case base=>simp
    intro v' w1 hown hg _ hat
    have HB:=Aside0.mk (pw_below_grown (below_alloc (Below.refl w.heap.size w) (Obj.cells #[] 169)) _ (below_size (below_alloc (Below.refl _ _) _)) hg (by intro k hk;injection hk with hk;exact Nat.le_of_eq hk))
    have HO:=Aside0.mk hown
    clear hown hg hat
    obtain⟨A',c',rfl,hA'⟩:=ow_slice HO.out
    clear hA'
    go_wp2
    go_ret
    exact⟨_,rfl,by simpa using HO.out,HB.out⟩
theorem info_dirties:(Tryz.prog.info? 288).map (fun i=>(i.zero,i.size,i.bytes))=some (some (.agg #[.int .i64 0,.int .i64 0]),2,16):=by kernel_rfl
theorem clone_dirties (v:Value)(n:Nat)(xs:List Value)(w:World)(h:Rd w 288 2 v n xs)(h1 : ∀u∈xs,u.oneCell'=true) :
    Calls Tryz.prog 198 #[v] w fun e w' => ∃v',e = .returned v'∧w'.ownsRow w.heap.size 288 2 v' n xs∧Below w.heap.size w w':=by
  obtain⟨i0,hi,hzz⟩:=Option.map_eq_some_iff.1 info_dirties
  simp only[Prod.mk.injEq] at hzz
  obtain⟨hz0,hz1,hz2⟩:=hzz
  obtain⟨A,c,rfl,hA,hr⟩:=h.form
  have hlen:=h.1
  have hmax:=h.2.1
  cases A with
  | none=>
    obtain⟨rfl,rfl⟩:=hA rfl
    obtain rfl:xs=[]:=List.eq_nil_of_length_eq_zero (by simpa using hlen)
    have hnil:=fun W:World=>Lib.run_eql_slice_nil (P:=Tryz.prog) W 158 288 none 0 0 0 0 Tryz.underlying158
    clear hA hr hlen h h1 hmax
    go_enter Tryz.func198,Tryz.ntmps198
    go_wp2
    go_ret
    exact⟨_,rfl,World.ownsRow_nil _ _ _ _,Below.refl _ _⟩
  | some ad=>
    obtain⟨hcell,_,hlt⟩:=hr ad rfl
    have hnil:=fun W:World=>Lib.run_eql_slice_nil (P:=Tryz.prog) W 158 288 (some ad) n c 0 0 Tryz.underlying158
    have HC:=Aside0.mk hcell
    have H1:=Aside0.mk h1
    have HL:=Aside0.mk hlen
    have HM:=Aside0.mk hmax
    have HLT:=Aside0.mk hlt
    clear hcell h1 hlen hmax hlt hA hr h
    go_enter Tryz.func198,Tryz.ntmps198
    go_wp2_with (at_builtin;refine wpList_append_own_at _ (by rfl) _ _ 158 (by rfl) w.heap.size 288 i0 (.agg #[.int .i64 0,.int .i64 0]) 2 16 Tryz.underlying158 hi hz0 hz1 hz2 rfl (by decide) _ 0 [] (by rfl) ?own ad n c xs (by rfl) HL.out ?news H1.out ?h63 ?hby ?base ?_)
    case own=>exact⟨rfl,.inr ⟨w.heap.size,0,#[],rfl,Nat.le_refl _,(by show (w.heap.push _)[w.heap.size]? = _;exact Array.getElem?_push_size),by omega,by decide,rfl,rfl⟩⟩
    case news=>
      intro j u hu
      rw[World.cell?_alloc_lt _ _ _ (by have:=HLT.out;unfold Addr.add;split<;>simpa using this)]
      exact HC.out j u hu
    case h63=>have:=HM.out;unfold maxLen;omega
    case hby=>have:=HM.out;omega
    case base=>simp
    intro v' w1 hown hg _ hat
    have HB:=Aside0.mk (pw_below_grown (below_alloc (Below.refl w.heap.size w) (Obj.cells #[] 288)) _ (below_size (below_alloc (Below.refl _ _) _)) hg (by intro k hk;injection hk with hk;exact Nat.le_of_eq hk))
    have HO:=Aside0.mk hown
    clear hown hg hat
    obtain⟨A',c',rfl,hA'⟩:=ow_slice HO.out
    clear hA'
    go_wp2
    go_ret
    exact⟨_,rfl,by simpa using HO.out,HB.out⟩
end Go.Proofs.YtaplpeoikebedaaGreatDoor.Clone
namespace Go.Proofs.YtaplpeoikebedaaGreatDoor.Cell
open Go.RowKit YtaplpeoikebedaaGreatDoorW.PrintWords YtaplpeoikebedaaGreatDoorW.PrintLast YtaplpeoikebedaaGreatDoorW.PrintMore
open See Mem Clone
attribute [local go_sem] max2_int min2_int max_two min_two
def le:List Int→Int
  | []=>0
  | x :: xs=>x+256*le xs
theorem le_append (xs ys:List Int):le (xs++ys)=le xs+256 ^ xs.length*le ys:=by
  induction xs with
  | nil=>simp[le]
  | cons x xs ih=>
    simp only[List.cons_append,le,ih,List.length_cons,Int.pow_succ]
    rw[Int.mul_add,Int.mul_comm (256 ^ xs.length) 256,←Int.mul_assoc]
    omega
theorem le_bound : ∀xs:List Int,IsB xs→0≤le xs∧le xs<256 ^ xs.length
  | [],_=>by simp[le]
  | x :: xs,h=>by
    obtain⟨h1,h2⟩:=le_bound xs fun y hy=>h y (List.mem_cons_of_mem _ hy)
    obtain⟨h3,h4⟩:=h x (List.mem_cons_self ..)
    simp only[le,List.length_cons,Int.pow_succ]
    omega
theorem wrap64u {n:Int}(h0:0≤n)(h1:n<2 ^ 64):IntKind.u64.wrap n=n:=by
  simp only[IntKind.wrap,IntKind.bits,IntKind.signed,Bool.false_and]
  rw[if_neg (by simp)]
  exact Int.emod_eq_of_lt h0 h1
theorem pow_8 (d:Nat):(2:Int) ^ (8*d)=256 ^ d:=by rw[Int.pow_mul];rfl
theorem npow_8 (d:Nat):(2:Nat) ^ (8*d)=256 ^ d:=by rw[Nat.pow_mul]
theorem or_step (j x:Int)(d:Nat)(hd:d<8)(hj0:0≤j)(hj:j<256 ^ d)(hx0:0≤x)(hx:x<256):bits .or .u64 j (IntKind.u64.wrap (x*2 ^ (8*d)))=j+256 ^ d*x:=by
  obtain⟨a,rfl⟩:=Int.eq_ofNat_of_zero_le hj0
  obtain⟨b,rfl⟩:=Int.eq_ofNat_of_zero_le hx0
  have ha:a<2 ^ (8*d):=by rw[npow_8];exact_mod_cast hj
  have hb:b<256:=by exact_mod_cast hx
  have hp:2 ^ (8*d)*256≤2 ^ 64:=by
    have:(256:Nat)=2 ^ 8:=rfl
    rw[this,←Nat.pow_add]
    exact Nat.pow_le_pow_right (by decide) (by omega)
  have hbp:2 ^ (8*d)*b<2 ^ 64:=Nat.lt_of_lt_of_le (Nat.mul_lt_mul_of_pos_left hb (Nat.two_pow_pos _)) hp
  have hap:a<2 ^ 64:=Nat.lt_of_lt_of_le ha (by omega)
  have e:(b:Int)*2 ^ (8*d)=((2 ^ (8*d)*b:Nat):Int):=by rw[Int.natCast_mul,Int.mul_comm];simp
  rw[e,wrap64u (Int.natCast_nonneg _) (by exact_mod_cast hbp)]
  rw[(bits_nat .u64 64 (by decide) (fun n h0 h1=>wrap64u h0 h1) a _ hap hbp).2]
  rw[Nat.or_comm,←Nat.two_pow_add_eq_or_of_lt ha b,npow_8]
  simp
  omega
theorem le_snoc {bs:List Int}{d:Nat}{x:Int}(h:bs[d]? = some x):le (bs.take (d+1))=le (bs.take d)+256 ^ d*x:=by
  have hl:d<bs.length:=(List.getElem?_eq_some_iff.1 h).1
  have hx:bs[d]=x:=(List.getElem?_eq_some_iff.1 h).2
  rw[List.take_succ_eq_append_getElem hl,le_append,hx,List.length_take,Nat.min_eq_left (by omega)]
  simp[le]
theorem places_calls (A:Option Addr)(n c:Nat)(a s:Int)(h0:0≤a)(h1:1≤s)(h8:s≤8)(hn:a+s≤n)(hb:a≤1000000)(w:World) :
    Calls Tryz.prog 155 #[.slice A n c,.int .i64 a,.int .i64 s] w fun e w'=>e = .returned (.tuple #[.int .i64 a,.int .i64 (a+s)])∧w=w':=by
  obtain⟨m,hm⟩ : ∃m:Int,(n:Int)=m:=⟨_,rfl⟩
  have hn':a+s≤m:=by omega
  have e1:max a 0=a:=by omega
  have e2:max s 1=s:=by omega
  have e3:min s 8=s:=by omega
  have e4:min (a+s) m=a+s:=by omega
  go_enter Tryz.func155,Tryz.ntmps155
  go_wp2
  exact bodyPost_ret (v:=.tuple #[.int .i64 a,.int .i64 (a+s)]) (by simp[results,Tryz.results155,go_sem]) rfl ⟨rfl,rfl⟩
theorem get_calls (v:Value)(bs:List Int)(a s:Int)(h0:0≤a)(h1:1≤s)(h8:s≤8)(hn:a+s≤bs.length)(hB:IsB bs)(w:World)(hb:BS w v bs) :
    Calls Tryz.prog 104 #[v,.int .i64 a,.int .i64 s] w fun e w'=>e = .returned (.int .u64 (le ((bs.drop a.toNat).take s.toNat)))∧w=w':=by
  obtain⟨A,c,rfl,hA,hr⟩:=Rd.form hb
  obtain⟨ad,rfl⟩ : ∃ad,A=some ad:=by
    cases A with
    | none=>have:=(hA rfl).1;omega
    | some ad=>exact⟨ad,rfl⟩
  obtain⟨hcell,_,hlt⟩:=hr ad rfl
  have HC:=Aside0.mk hcell
  have HB:=Aside0.mk hB
  have hm:=hb.2.1
  obtain⟨n,hnn⟩ : ∃n,bs.length=n:=⟨_,rfl⟩
  have HN:=Aside0.mk hnn
  rw[hnn] at hn hm ⊢
  have hd1:decide (a≥(n:Int))=false:=decide_eq_false (by omega)
  have hd2:decide (a < -8)=false:=decide_eq_false (by omega)
  clear hb hA hr hcell hB hnn hlt
  go_enter Tryz.func104,Tryz.ntmps104
  go_wp2_with fail
  refine (places_calls (some ad) n c a s h0 h1 h8 hn (by omega) _).mono ?_
  rintro e w' ⟨rfl,rfl⟩
  go_wp2_with fail
  go_loopg [7,10] 9 (fun kq v7 v10 w' => ∃(i j:Int),v7 = .int .u64 j∧v10 = .int .i64 i∧Aside0 (a≤i∧i≤a+s∧(kq:Int)=9 - (i - a)∧j=le ((bs.drop a.toNat).take (i - a).toNat))∧w'=w)
  case atStart=>exact⟨a,0,rfl,rfl,⟨by omega,by omega,by omega,by simp[le]⟩,rfl⟩
  case round=>
    obtain⟨i,j,rfl,rfl,HI,rfl⟩:=hrel
    by_cases hlt:i<a+s
    · have h1:=HI.out
      have h2:i.toNat<bs.length:=by have:=HN.out;omega
      obtain⟨x,hx⟩ : ∃x,bs[i.toNat]? = some x:=⟨_,List.getElem?_eq_getElem h2⟩
      have hc:wr.cell? (ad.add i.toNat)=some (.int .u8 x):=HC.out _ _ (by rw[List.getElem?_map,hx];rfl)
      obtain⟨hx0,hx1⟩:=HB.out.at hx
      have hi0:0≤i:=by omega
      have hin:i<(n:Int):=by omega
      have hia:0≤i - a:=by omega
      have hib:i - a<8:=by omega
      have HX:=Aside0.mk hx
      clear h1 h2 hx
      go_wp2_with fail
      go_roundg (gk - 1)
      case measure=>have:=HI.out;omega
      case rel=>
        obtain⟨g1,g2,g3,g4⟩:=HI.out
        refine⟨i+1,_,rfl,rfl,⟨by omega,by omega,by omega,?_⟩,rfl⟩
        have e8:(8*(i - a)).toNat=8*(i - a).toNat:=by omega
        have ed:(bs.drop a.toNat)[(i - a).toNat]? = some x:=by
          rw[List.getElem?_drop,show a.toNat+(i - a).toNat=i.toNat from by omega];exact HX.out
        obtain⟨b1,b2⟩:=le_bound ((bs.drop a.toNat).take (i - a).toNat) ((HB.out.drop _).take _)
        have hl:((bs.drop a.toNat).take (i - a).toNat).length=(i - a).toNat:=by
          have:=(List.getElem?_eq_some_iff.1 ed).1
          rw[List.length_take];omega
        rw[hl] at b2
        rw[e8,show (i+1 - a).toNat=(i - a).toNat+1 from by omega,le_snoc ed,g4,or_step _ _ _ (by omega) b1 b2 hx0 hx1]
    · have HI2:=Aside0.mk (show i=a+s by have:=HI.out;omega)
      have hn2:decide (i<a+s)=false:=decide_eq_false hlt
      go_wp2_with fail
      go_ret
      obtain⟨g1,g2,g3,g4⟩:=HI.out
      rw[show (i - a).toNat=s.toNat from by have:=HI2.out;omega] at g4
      exact⟨by simp[g4],rfl⟩
def leB:Nat→Int→List Int
  | 0,_=>[]
  | d+1,n=>n % 256 :: leB d (n / 256)
theorem leB_length : ∀(d:Nat) (n:Int),(leB d n).length=d
  | 0,_=>rfl
  | d+1,n=>by simp[leB,leB_length d]
theorem leB_isB : ∀(d:Nat) (n:Int),IsB (leB d n)
  | 0,_=>IsB.nil
  | d+1,n=>fun x h=>by
    rcases List.mem_cons.1 h with rfl | h
    · omega
    · exact leB_isB d _ x h
theorem emod_step (n p:Int)(hp:0<p):n % 256+256*(n / 256 % p)=n % (p*256):=by
  have h1:n=256*(n / 256)+n % 256:=(Int.mul_ediv_add_emod n 256).symm
  have h2:n / 256=p*(n / 256 / p)+n / 256 % p:=(Int.mul_ediv_add_emod _ p).symm
  have h3:=Int.emod_nonneg (n / 256) (show p≠0 by omega)
  have h4:=Int.emod_lt_of_pos (n / 256) hp
  have e:n=(n % 256+256*(n / 256 % p))+(p*256)*(n / 256 / p):=by
    have:256*(p*(n / 256 / p))=(p*256)*(n / 256 / p):=by rw[←Int.mul_assoc,Int.mul_comm 256 p]
    omega
  have e2:n % (p*256)=(n % 256+256*(n / 256 % p)) % (p*256):=by
    conv=>lhs;rw[e]
    exact Int.add_mul_emod_self_left _ _ _
  rw[e2]
  exact (Int.emod_eq_of_lt (by omega) (by omega)).symm
theorem le_leB : ∀(d:Nat) (n:Int),le (leB d n)=n % 256 ^ d
  | 0,n=>by simp[leB,le]
  | d+1,n=>by
    simp only[leB,le,le_leB d]
    rw[Int.pow_succ]
    exact emod_step n _ (Int.pow_pos (by omega))
theorem leB_snoc : ∀(d:Nat) (n:Int),leB (d+1) n=leB d n++[n / 256 ^ d % 256]
  | 0,n=>by simp[leB]
  | d+1,n=>by
    rw[leB,leB_snoc d (n / 256),leB]
    simp only[List.cons_append,List.cons.injEq,true_and]
    rw[Int.ediv_ediv_of_nonneg (by omega),Int.pow_succ,Int.mul_comm]
def putL (bs:List Int)(a d:Nat)(n:Int):List Int:=bs.take a++(leB d n++bs.drop (a+d))
theorem putL_zero (bs:List Int)(a:Nat)(n:Int):putL bs a 0 n=bs:=by simp[putL,leB]
theorem putL_length (bs:List Int)(a d:Nat)(n:Int)(h:a+d≤bs.length):(putL bs a d n).length=bs.length:=by
  simp only[putL,List.length_append,List.length_take,List.length_drop,leB_length];omega
theorem putL_isB {bs:List Int}(h:IsB bs)(a d:Nat)(n:Int):IsB (putL bs a d n):=(h.take a).append ((leB_isB d n).append (h.drop _))
theorem putL_step (bs:List Int)(a d:Nat)(n:Int)(h:a+d<bs.length):(putL bs a d n).set (a+d) (n / 256 ^ d % 256)=putL bs a (d+1) n:=by
  unfold putL
  have h1:(bs.take a).length=a:=by rw[List.length_take];omega
  rw[List.set_append_right _ _ (by omega),h1,List.set_append_right _ _ (by rw[leB_length];omega),leB_length,leB_snoc]
  rw[show a+d - a - d=0 from by omega,List.drop_eq_getElem_cons h,List.set_cons_zero]
  simp[List.append_assoc,Nat.add_assoc]
theorem put_calls (v:Value)(bs:List Int)(a s m:Int)(h0:0≤a)(h1:1≤s)(h8:s≤8)(hn:a+s≤bs.length)(hm0:0≤m)(w:World)(hb:BS w v bs) :
    Calls Tryz.prog 158 #[v,.int .i64 a,.int .i64 s,.int .u64 m] w fun e w' => ∃v',e = .returned v'∧BS w' v' (putL bs a.toNat s.toNat m)∧Below w.heap.size w w':=by
  obtain⟨A,c,rfl,hA,hr⟩:=Rd.form hb
  have hm:=hb.2.1
  have HBS:=Aside0.mk hb
  obtain⟨n,hnn⟩ : ∃n,bs.length=n:=⟨_,rfl⟩
  have HN:=Aside0.mk hnn
  clear hb hA hr
  rw[hnn] at hn hm ⊢
  have hd1:decide (a≥(n:Int))=false:=decide_eq_false (by omega)
  have hd2:decide (a < -8)=false:=decide_eq_false (by omega)
  clear hnn
  go_enter Tryz.func158,Tryz.ntmps158
  go_wp2_with fail
  have hcl:=clone_bytes (.slice A n c) n (bs.map (.int .u8)) w (by have:=HBS.out;unfold BS at this;rw[HN.out] at this;exact this) (fun u hu=>by obtain⟨x,_,rfl⟩:=List.mem_map.1 hu;rfl)
  refine hcl.mono ?_
  clear hcl
  rintro e w1 ⟨v1,rfl,ho,hB⟩
  obtain⟨g,c1,rfl,hg,_⟩:=ho.form (by omega)
  have HO:=Aside0.mk ho
  have HB:=Aside0.mk hB
  have HG:=Aside0.mk hg
  clear ho hB hg
  go_wp2_with fail
  refine (places_calls A n c a s h0 h1 h8 hn (by omega) _).mono ?_
  rintro e w' ⟨rfl,rfl⟩
  go_wp2_with fail
  go_loopg [12] 9 (fun kq v12 w' => ∃(i:Int),v12 = .int .i64 i∧Aside0 (a≤i∧i≤a+s∧(kq:Int)=9 - (i - a))∧Aside0 (w'.ownsRow w.heap.size 5 1 (.slice (some ⟨g,0,none⟩) n c1) n ((putL bs a.toNat (i - a).toNat m).map (.int .u8)))∧Aside0 (Below w.heap.size w w'))
  case atStart=>exact⟨a,rfl,⟨by omega,by omega,by omega⟩,⟨by rw[show (a - a).toNat=0 from by omega,putL_zero];exact HO.out⟩,HB⟩
  case round=>
    obtain⟨i,rfl,HI,HR,HB1⟩:=hrel
    by_cases hlt:i<a+s
    · have g1:=HI.out
      obtain⟨x,hx⟩ : ∃x,(putL bs a.toNat (i - a).toNat m)[i.toNat]? = some x:=⟨_,List.getElem?_eq_getElem (by rw[putL_length _ _ _ _ (by have:=HN.out;omega)];have:=HN.out;omega)⟩
      have hc:wr.cell? ⟨g,i.toNat,none⟩=some (.int .u8 x):=by rw[HR.out.cellAt _ (by omega),List.getElem?_map,hx];rfl
      have hf:wr.frozen? ⟨g,i.toNat,none⟩=false:=HR.out.frozenAt _
      have hi0:0≤i:=by omega
      have hin:i<(n:Int):=by omega
      have hia:0≤i - a:=by omega
      have hib:i - a<8:=by omega
      clear g1 hx
      go_wp2_with fail
      go_roundg (gk - 1)
      case measure=>have:=HI.out;omega
      case rel=>
        have g1:=HI.out
        refine⟨i+1,rfl,⟨by omega,by omega,by omega⟩,⟨?_⟩,⟨HB1.out.setCell HG.out _⟩⟩
        have e8:(8*(i - a)).toNat=8*(i - a).toNat:=by omega
        have:=(HR.out.stored i.toNat (.int .u8 (m / 2 ^ (8*(i - a)).toNat % 256))).1
        rw[←List.map_set,e8,pow_8,show i.toNat=a.toNat+(i - a).toNat from by omega,putL_step _ _ _ _ (by have:=HN.out;omega)] at this
        rw[e8,pow_8,show (i+1 - a).toNat=(i - a).toNat+1 from by omega]
        rw[show i.toNat=a.toNat+(i - a).toNat from by omega]
        exact this
    · have HI2:=Aside0.mk (show i=a+s by have:=HI.out;omega)
      have hn2:decide (i<a+s)=false:=decide_eq_false hlt
      go_wp2_with fail
      go_ret
      refine⟨_,rfl,?_,HB1.out⟩
      have:=HR.out
      rw[show (i - a).toNat=s.toNat from by have:=HI2.out;omega] at this
      unfold BS
      rw[putL_length _ _ _ _ (by have:=HN.out;omega),HN.out]
      exact Rd.of_own this hm
end Go.Proofs.YtaplpeoikebedaaGreatDoor.Cell
namespace Go.Proofs.YtaplpeoikebedaaGreatDoor.Page
open Go.RowKit YtaplpeoikebedaaGreatDoorW.PrintWords YtaplpeoikebedaaGreatDoorW.PrintLast YtaplpeoikebedaaGreatDoorW.PrintMore
open See Mem Clone Go.Proofs.YtaplpeoikebedaaGreatDoor.Cell
attribute [local go_sem] max2_int min2_int max_two min_two
def errv (a:Nat→Addr):Option Nat→Value
  | none=>.nilIface
  | some k=>.iface 333 (.pointer (some (a k)))
def cells2 (es:List (Int×Int)):List Value:=es.flatMap fun e=>[.int .i64 e.1,.int .i64 e.2]
theorem cells2_append (es fs:List (Int×Int)):cells2 (es++fs)=cells2 es++cells2 fs:=by unfold cells2;rw[List.flatMap_append]
theorem cells2_snoc (es:List (Int×Int))(e:Int×Int):cells2 (es++[e])=cells2 es++[.int .i64 e.1,.int .i64 e.2]:=by rw[cells2_append];rfl
theorem cells2_one : ∀(es:List (Int×Int)),∀u∈cells2 es,u.oneCell'=true:=fun es u hu=>by
  obtain⟨e,_,h⟩:=List.mem_flatMap.1 hu
  simp at h
  rcases h with rfl | rfl<;>rfl
theorem cells2_at : ∀(es:List (Int×Int)) (i:Nat) (e:Int×Int),es[i]? = some e→(cells2 es)[i*2]? = some (.int .i64 e.1)∧(cells2 es)[i*2+1]? = some (.int .i64 e.2)
  | [],i,t,h=>by simp at h
  | s :: ps,0,t,h=>by
    simp at h;subst h
    exact⟨by simp[cells2,List.flatMap_cons],by simp[cells2,List.flatMap_cons]⟩
  | s :: ps,i+1,t,h=>by
    have:=cells2_at ps i t (by simpa using h)
    have e:cells2 (s :: ps)=[.int .i64 s.1,.int .i64 s.2]++cells2 ps:=by simp[cells2,List.flatMap_cons]
    rw[e,List.getElem?_append_right (by simp;omega),List.getElem?_append_right (by simp;omega)]
    simp only[List.length_cons,List.length_nil]
    rw[show (i+1)*2 - (0+1+1)=i*2 from by omega,show (i+1)*2+1 - (0+1+1)=i*2+1 from by omega]
    exact this
def P2 (w:World)(t:Nat)(v:Value)(es:List (Int×Int)):Prop:=w.ownsRow 0 t 2 v es.length (cells2 es)∧es.length≤100000
theorem P2.nil (w:World)(t:Nat):P2 w t (.slice none 0 0) []:=⟨⟨rfl,.inl ⟨rfl,rfl⟩⟩,by simp⟩
theorem P2.below {w w':World}{t:Nat}{v:Value}{es:List (Int×Int)}(h:P2 w t v es)(hb:Below w.heap.size w w'):P2 w' t v es:=⟨ow_below h.1 hb,h.2⟩
theorem P2.frm {T:List Nat}{M:Nat→Prop}{w w':World}{t:Nat}{v:Value}{es:List (Int×Int)}(h:P2 w t v es)(hf:Frm T M w w')(ht:t∉T):P2 w' t v es:=⟨ow_frm h.1 hf ht,h.2⟩
theorem P2.rd {w:World}{t:Nat}{v:Value}{es:List (Int×Int)}(h:P2 w t v es):Rd w t 2 v es.length (cells2 es):=Rd.of_own h.1 (by have:=h.2;omega)
theorem P2.form {w:World}{t:Nat}{v:Value}{es:List (Int×Int)}(h:P2 w t v es):(v = .slice none 0 0∧es=[]) ∨
    ∃g cap,v = .slice (some ⟨g,0,none⟩) es.length cap∧(∀(i:Nat) (e:Int×Int),es[i]? = some e→w.cell? ⟨g,i*2,none⟩=some (.int .i64 e.1)∧w.cell? ⟨g,i*2+1,none⟩=some (.int .i64 e.2))∧g<w.heap.size:=by
  rcases h.1.2 with ⟨hv,h0⟩ | ⟨g,cap,cur,hv,hg,hh,hnc,hcm,hsz,htk⟩
  · exact .inl ⟨hv,List.eq_nil_of_length_eq_zero h0⟩
  · refine .inr ⟨g,cap,hv,fun i e hi => ?_,heap_lt hh⟩
    have hlt:i<es.length:=(List.getElem?_eq_some_iff.1 hi).1
    obtain⟨c0,c1⟩:=cells2_at es i e hi
    rw[←htk,List.getElem?_take,if_pos (by omega)] at c0
    rw[←htk,List.getElem?_take,if_pos (by omega)] at c1
    constructor
    · simp only[World.cell?,hh];simpa using c0
    · simp only[World.cell?,hh];simpa using c1
def keyOk (es:List (Int×Int))(k:Nat):Bool:=
  match es[k]? with
  | none=>true
  | some e=>decide (0≤e.1) && decide (e.1<1048576) && (k == 0 || match es[k - 1]? with | none=>true | some p=>decide (p.1<e.1))
def headOk (lsn:Int)(n:Nat):Bool:=decide (0≤lsn) && decide (lsn≤1073741824) && decide (n≤20) && !(decide (0<n) && decide (lsn=0))
def pageOk (lsn:Int)(es:List (Int×Int)):Bool:=headOk lsn es.length && (List.range es.length).all (keyOk es)
theorem pageOk_false {lsn:Int}{es:List (Int×Int)}{k:Nat}(hk:k<es.length)(h:keyOk es k=false):pageOk lsn es=false:=by
  unfold pageOk
  rw[Bool.and_eq_false_iff]
  right
  rw[List.all_eq_false]
  exact⟨k,List.mem_range.2 hk,by simp[h]⟩
theorem pageOk_true {lsn:Int}{es:List (Int×Int)}(h1:headOk lsn es.length=true)(h : ∀k,k<es.length→keyOk es k=true):pageOk lsn es=true:=by
  unfold pageOk
  rw[h1,Bool.true_and,List.all_eq_true]
  exact fun k hk=>h k (List.mem_range.1 hk)
def checkE (lsn:Int)(es:List (Int×Int)):Option Nat:=if pageOk lsn es then none else some 1
theorem check_calls (a:Nat→Addr)(lsn:Int)(sl:Value)(es:List (Int×Int))(w:World)(hs:Sents w a)(hp:P2 w 169 sl es) :
    Calls Tryz.prog 188 #[.agg #[.int .i64 lsn,sl]] w fun e w'=>e = .returned (errv a (checkE lsn es))∧Below w.heap.size w w':=by
  have hg1:w.cell? ⟨6,0,none⟩=some (.iface 333 (.pointer (some (a 1)))):=hs.cell 1 (by decide)
  obtain⟨sad,hsa⟩ : ∃x,a 1=x:=⟨_,rfl⟩
  rw[hsa] at hg1
  have HSA:=Aside0.mk hsa
  have hlt1:6<w.heap.size:=World.block_lt_of_cell? _ _ hg1
  have HP:=Aside0.mk hp
  obtain⟨A,cap,rfl,_⟩:=ow_slice hp.1
  obtain⟨n,hn⟩ : ∃n,es.length=n:=⟨_,rfl⟩
  have HN:=Aside0.mk hn
  have hmax:n≤100000:=by rw[←hn];exact hp.2
  rw[hn]
  clear hs hp hsa hn
  have HBAD:=Aside0.mk (show headOk lsn n=false→errv a (checkE lsn es) = .iface 333 (.pointer (some sad)) from fun h=>by
    have:checkE lsn es=some 1:=by unfold checkE pageOk;rw[HN.out,h];rfl
    rw[this,←HSA.out];rfl)
  rcases (show lsn<0∨(0≤lsn∧1073741824<lsn)∨(0≤lsn∧lsn≤1073741824∧(20:Int)<n)∨(lsn=0∧(n:Int)≤20∧0<n)∨(0≤lsn∧lsn≤1073741824∧n=0)∨(0<lsn∧lsn≤1073741824∧(n:Int)≤20∧0<n) by omega) with h | ⟨h,h2⟩ | ⟨h,h2,h3⟩ | ⟨h,h2,h3⟩ | ⟨h,h2,h3⟩ | ⟨h,h2,h3,h4⟩
  · have HH:=Aside0.mk (show headOk lsn n=false by unfold headOk;simp;omega)
    go_enter Tryz.func188,Tryz.ntmps188
    go_wp2
    go_ret
    exact⟨by simp[HBAD.out HH.out],below_alloc (Below.refl _ _) _⟩
  · have HH:=Aside0.mk (show headOk lsn n=false by unfold headOk;simp;omega)
    go_enter Tryz.func188,Tryz.ntmps188
    go_wp2
    go_ret
    exact⟨by simp[HBAD.out HH.out],below_alloc (Below.refl _ _) _⟩
  · have HH:=Aside0.mk (show headOk lsn n=false by unfold headOk;simp;omega)
    go_enter Tryz.func188,Tryz.ntmps188
    go_wp2
    go_ret
    exact⟨by simp[HBAD.out HH.out],below_alloc (Below.refl _ _) _⟩
  · have HH:=Aside0.mk (show headOk lsn n=false by unfold headOk;simp;omega)
    subst h
    go_enter Tryz.func188,Tryz.ntmps188
    go_wp2
    go_ret
    exact⟨by simp[HBAD.out HH.out],below_alloc (Below.refl _ _) _⟩
  · have HH:=Aside0.mk (show errv a (checkE lsn es) = .nilIface by
      have:checkE lsn es=none:=by
        unfold checkE
        rw[pageOk_true (by unfold headOk;rw[HN.out];simp;omega) (fun k hk=>by have:=HN.out;omega)];rfl
      rw[this];rfl)
    subst h3
    go_enter Tryz.func188,Tryz.ntmps188
    go_wp2_with fail
    go_loopg [34] 1 (fun kq v34 w'=>v34 = .int .i64 0∧w'=w.alloc (.cells #[.int .i64 lsn,.slice A 0 cap] 74))
    case atStart=>exact⟨rfl,rfl⟩
    case round=>
      obtain⟨rfl,rfl⟩:=hrel
      go_wp2
      go_ret
      exact⟨by simp[HH.out],below_alloc (Below.refl _ _) _⟩
  · have HH:=Aside0.mk (show headOk lsn n=true by unfold headOk;simp;omega)
    have hz:(lsn == 0)=false:=by simp;omega
    obtain⟨g,rfl⟩ : ∃g,A=some ⟨g,0,none⟩:=by
      rcases HP.out.form with ⟨_,he⟩ | ⟨g,c,hv,_⟩
      · have:=HN.out;rw[he] at this;simp at this;omega
      · injection hv with h1;exact⟨g,h1⟩
    have hcell:Aside0 (∀(i:Nat) (e:Int×Int),es[i]? = some e→w.cell? ⟨g,i*2,none⟩=some (.int .i64 e.1)∧w.cell? ⟨g,i*2+1,none⟩=some (.int .i64 e.2)):=by
      rcases HP.out.form with ⟨_,he⟩ | ⟨g',c,hv,hc,_⟩
      · have:=HN.out;rw[he] at this;simp at this;omega
      · injection hv with h1;injection h1 with h1;injection h1 with h1;subst h1;exact⟨hc⟩
    have HGL:Aside0 (g<w.heap.size):=by
      rcases HP.out.form with ⟨_,he⟩ | ⟨g',c,hv,hc,hl⟩
      · have:=HN.out;rw[he] at this;simp at this;omega
      · injection hv with h1;injection h1 with h1;injection h1 with h1;subst h1;exact⟨hl⟩
    go_enter Tryz.func188,Tryz.ntmps188
    go_wp2_with fail
    go_loopg [34] (n+1) (fun kq v34 w' => ∃i:Int,v34 = .int .i64 i∧Aside0 (0≤i∧i≤n∧(kq:Int)=n+1 - i∧∀k:Nat,(k:Int)<i→keyOk es k=true)∧Aside0 (Below (w.heap.size+1) (w.alloc (.cells #[.int .i64 lsn,.slice (some ⟨g,0,none⟩) n cap] 74)) w'))
    case atStart=>exact⟨0,rfl,⟨by omega,by omega,by omega,fun k hk=>by omega⟩,⟨Below.refl _ _⟩⟩
    case round=>
      obtain⟨i,rfl,HI,HB⟩:=hrel
      have hi0:0≤i:=HI.out.1
      have hg1':wr.cell? ⟨6,0,none⟩=some (.iface 333 (.pointer (some sad))):=by
        rw[HB.out.cell (p:=⟨6,0,none⟩) (by show 6<_;omega),World.cell?_alloc_lt _ _ _ (by exact hlt1)];exact hg1
      have hw1:wr.cell? ⟨w.heap.size,1,none⟩=some (.slice (some ⟨g,0,none⟩) n cap):=by
        rw[HB.out.cell (p:=⟨w.heap.size,1,none⟩) (by simp)];simp
      have hlts:w.heap.size<wr.heap.size:=by have:=HB.out.size;simp at this;omega
      have hls:6<wr.heap.size:=by omega
      by_cases hlt:i<n
      · obtain⟨e,he⟩ : ∃e,es[i.toNat]? = some e:=⟨_,List.getElem?_eq_getElem (by have:=HN.out;omega)⟩
        obtain⟨hc0,hc1⟩:=hcell.out i.toNat e he
        have hd0:wr.cell? ⟨g,i.toNat*2,none⟩=some (.int .i64 e.1):=by
          rw[HB.out.cell (p:=⟨g,_,none⟩) (by have:=HGL.out;show g<_;omega),World.cell?_alloc_lt _ _ _ (by exact HGL.out)];exact hc0
        have hd1:wr.cell? ⟨g,i.toNat*2+1,none⟩=some (.int .i64 e.2):=by
          rw[HB.out.cell (p:=⟨g,_,none⟩) (by have:=HGL.out;show g<_;omega),World.cell?_alloc_lt _ _ _ (by exact HGL.out)];exact hc1
        clear hc0 hc1
        obtain⟨x,y⟩:=e
        simp only at hd0 hd1
        have HE:=Aside0.mk he
        have HBK:=Aside0.mk (show keyOk es i.toNat=false→errv a (checkE lsn es) = .iface 333 (.pointer (some sad)) from fun h=>by
          have:checkE lsn es=some 1:=by unfold checkE;rw[pageOk_false (by have:=HN.out;omega) h];rfl
          rw[this,←HSA.out];rfl)
        have HBB:=Aside0.mk ((below_alloc (Below.refl w.heap.size w) (.cells #[.int .i64 lsn,.slice (some ⟨g,0,none⟩) n cap] 74)).trans (HB.out.mono (Nat.le_succ _)))
        clear he
        rcases (show x<0∨(0≤x∧1048576≤x)∨(0≤x∧x<1048576) by omega) with k1 | ⟨k1,k2⟩ | ⟨k1,k2⟩
        · replace HBK:=Aside0.mk (HBK.out (by unfold keyOk;rw[HE.out];simp;omega))
          have q1:decide (x<0)=true:=decide_eq_true k1
          go_wp2_with fail
          go_quiet (fail)
          go_wp2_with fail
          go_ret
          exact⟨by simp[HBK.out],by repeat (first | exact HBB.out | apply pw_below_drewN | apply below_drew1 | apply below_alloc)⟩
        · replace HBK:=Aside0.mk (HBK.out (by unfold keyOk;rw[HE.out];simp;omega))
          have q1:decide (x<0)=false:=decide_eq_false (by omega)
          have q2:decide (x≥1048576)=true:=decide_eq_true (by omega)
          go_wp2_with fail
          go_quiet (fail)
          go_wp2_with fail
          go_ret
          exact⟨by simp[HBK.out],by repeat (first | exact HBB.out | apply pw_below_drewN | apply below_drew1 | apply below_alloc)⟩
        · have q1:decide (x<0)=false:=decide_eq_false (by omega)
          have q2:decide (x≥1048576)=false:=decide_eq_false (by omega)
          have hgl:g<wr.heap.size:=by have:=HGL.out;omega
          rcases (show i=0∨0<i by omega) with k3 | k3
          · subst k3
            have hd0':wr.cell? ⟨g,0,none⟩=some (.int .i64 x):=hd0
            have hd1':wr.cell? ⟨g,1,none⟩=some (.int .i64 y):=hd1
            clear hd0 hd1
            have HK:=Aside0.mk (show keyOk es 0=true by unfold keyOk;rw[show es[0]? = some (x,y) from HE.out];simp;omega)
            go_wp2_with fail
            go_quiet (fail)
            go_wp2_with fail
            go_roundg (gk - 1)
            case measure=>have:=HI.out;omega
            case rel=>
              refine⟨0+1,rfl,⟨by omega,by omega,by have:=HI.out;omega,fun k hk => ?_⟩,⟨?_⟩⟩
              · rcases (show (k:Int)<0∨k=0 by omega) with h | h
                · exact HI.out.2.2.2 k h
                · subst h;exact HK.out
              · have:=HB.out
                have:=HB.out.size
                simp at this
                repeat (first | exact HB.out | apply pw_below_drewN | apply below_drew1 | refine Below.alloc ?_ (by omega) _)
          · obtain⟨⟨x',y'⟩,he'⟩ : ∃e,es[(i - 1).toNat]? = some e:=⟨_,List.getElem?_eq_getElem (by have:=HN.out;omega)⟩
            obtain⟨hc0,hc1⟩:=hcell.out (i - 1).toNat _ he'
            have hd2:wr.cell? ⟨g,(i - 1).toNat*2,none⟩=some (.int .i64 x'):=by
              rw[HB.out.cell (p:=⟨g,_,none⟩) (by have:=HGL.out;show g<_;omega),World.cell?_alloc_lt _ _ _ (by exact HGL.out)];exact hc0
            clear hc0 hc1
            have hd3:wr.cell? ⟨g,(i.toNat - 1)*2,none⟩=some (.int .i64 x'):=by rw[show i.toNat - 1=(i - 1).toNat from by omega];exact hd2
            have HE':=Aside0.mk (show es[i.toNat - 1]? = some (x',y') by rw[show i.toNat - 1=(i - 1).toNat from by omega];exact he')
            clear he'
            have q3:decide (i>0)=true:=decide_eq_true (by omega)
            have hz0:0≤i - 1:=by omega
            have hz1:i - 1<n:=by omega
            rcases (show x≤x'∨x'<x by omega) with k4 | k4
            · replace HBK:=Aside0.mk (HBK.out (by unfold keyOk;rw[HE.out,HE'.out];simp;omega))
              have q4:decide (x'≥x)=true:=decide_eq_true (by omega)
              go_wp2_with fail
              go_quiet (fail)
              go_wp2_with fail
              go_ret
              exact⟨by simp[HBK.out],by repeat (first | exact HBB.out | apply pw_below_drewN | apply below_drew1 | apply below_alloc)⟩
            · have q4:decide (x'≥x)=false:=decide_eq_false (by omega)
              have HK:=Aside0.mk (show keyOk es i.toNat=true by unfold keyOk;rw[HE.out,HE'.out];simp;omega)
              go_wp2_with fail
              go_quiet (fail)
              go_wp2_with fail
              go_roundg (gk - 1)
              case measure=>have:=HI.out;omega
              case rel=>
                refine⟨i+1,rfl,⟨by omega,by omega,by have:=HI.out;omega,fun k hk => ?_⟩,⟨?_⟩⟩
                · rcases (show (k:Int)<i∨k=i.toNat by omega) with h | h
                  · exact HI.out.2.2.2 k h
                  · subst h;exact HK.out
                · have:=HB.out
                  have:=HB.out.size
                  simp at this
                  repeat (first | exact HB.out | apply pw_below_drewN | apply below_drew1 | refine Below.alloc ?_ (by omega) _)
      · have HE:=Aside0.mk (show errv a (checkE lsn es) = .nilIface by
          have:checkE lsn es=none:=by
            unfold checkE
            rw[pageOk_true (by rw[HN.out];exact HH.out) (fun k hk=>HI.out.2.2.2 k (by have:=HI.out;have:=HN.out;omega))];rfl
          rw[this];rfl)
        go_wp2_with fail
        go_ret
        exact⟨by simp[HE.out],(below_alloc (Below.refl w.heap.size w) (.cells #[.int .i64 lsn,.slice (some ⟨g,0,none⟩) n cap] 74)).trans (HB.out.mono (Nat.le_succ _))⟩
end Go.Proofs.YtaplpeoikebedaaGreatDoor.Page
