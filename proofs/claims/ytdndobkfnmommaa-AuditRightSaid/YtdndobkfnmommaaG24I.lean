/- Contracts of the library at this seat. -/
import Derived.Test.YtdndobkfnmommaaG24D
import Derived.Test.YtdndobkfnmommaaSyX
import Derived.Test.YtdndobkfnmommaaSyS
import Derived.Test.YtdndobkfnmommaaSyU
import Derived.Shelf.Spec.SlicesInsertGrow
set_option linter.unusedVariables false
set_option linter.unusedSimpArgs false
namespace Go.SyP
open Go Go.Sy Go.Proofs Go.Lib Go.RowKit

def TI:Tab where
 info:=[(3,1,8,[.int .i64 0]),(44,1,24,[.slice none 0 0]),(76,2,16,[.int .i64 0,.int .i64 0])]
 aggs:=[(3,false),(44,false),(76,true)]
 slices:=[(44,76)]
 bools:=[]
theorem tokI:TabOk Try.prog TI:=⟨by kernel_rfl,by kernel_rfl,by kernel_rfl,by kernel_rfl,by kernel_rfl,by kernel_rfl,by kernel_rfl,by kernel_rfl,by kernel_rfl,by kernel_rfl,by kernel_rfl,by kernel_rfl⟩

theorem clone38 {tg:Bool} (xs:List api_Pair) (hb:xs.length * 16≤140737488355328):
  Says Try.prog 38 [] [.d (.sl tg xs.length (vec api_Pair.e api_Pair.z xs))] [.flat false 2 76 xs.length (vec api_Pair.e api_Pair.z xs)] (.own 0 2 0 xs.length):=by
 refine says_of Try.func38 rfl (nt:=8) rfl (Nat.le_of_ble_eq_true rfl) fun X hP h0 hX=>?_
 have hT:TabOk X.P TI:=hP▸tokI
 have hf:X.P.funcs[38]? = some Try.f38:=hP▸Try.func38
 refine go hT 8 [0,3] (k':=stackAt (Try.f38.body.getD .skip) [1,0,0,1] []) (st':=⟨8,[(0,.d (.sl tg xs.length (vec api_Pair.e api_Pair.z xs))),(3,.d (.sl tg xs.length (vec api_Pair.e api_Pair.z xs)))],[]⟩) (by kernel_rfl) ?_
 refine ak_nilcmp (eq:=true) (n:=xs.length) (dst:=some 4) (k':=stackAt (Try.f38.body.getD .skip) [1,0,0,2] []) hT [0,4] (st':=fun b=>⟨8,[(0,.d (.sl tg xs.length (vec api_Pair.e api_Pair.z xs))),(4,.d (.v (.bool b)))],[]⟩) (by kernel_rfl) (fun b=>by kernel_rfl) ?_
 intro b hbn
 cases b with
 | true=>
  have hx:xs=[]:=List.length_eq_zero_iff.1 (hbn rfl)
  subst hx
  refine go hT 6 [2] (k':=stackAt (Try.f38.body.getD .skip) [1,0,1,0,1] []) (st':=⟨8,[(2,.d (.v (.slice none 0 0)))],[]⟩) (by kernel_rfl) ?_
  refine ak_nilS [2] 2 2 76 (vec api_Pair.e api_Pair.z []) (st':=⟨8,[(2,.own 0 2 0 0)],[.flat false 2 76 0 (vec api_Pair.e api_Pair.z [])]⟩) (by kernel_rfl) (by kernel_rfl) ?_
  exact ak_ret hf hX (av:=.own 0 2 0 0) (by kernel_rfl) [0] (sel_of_eq (by kernel_rfl)) (by decide) (by rw [h0];rfl) (by kernel_rfl) (fun _ h=>all_cons (nr_vec api_Pair.nl) (fun _ h=>all_nil h) h) (.own _ _ _ _)
 | false=>
  refine go hT 5 [0] (k':=stackAt (Try.f38.body.getD .skip) [1,1,0,0] []) (st':=⟨8,[(0,.d (.sl tg xs.length (vec api_Pair.e api_Pair.z xs)))],[]⟩) (by kernel_rfl) ?_
  refine ak_emptyS (e:=76) (s:=2) (dst:=some 5) (k':=stackAt (Try.f38.body.getD .skip) [1,1,0,1] []) hT [0,5] (vec api_Pair.e api_Pair.z []) (by kernel_rfl) (st':=⟨8,[(0,.d (.sl tg xs.length (vec api_Pair.e api_Pair.z xs))),(5,.own 0 2 0 0)],[.flat false 2 76 0 (vec api_Pair.e api_Pair.z [])]⟩) (by kernel_rfl) ?_
  refine go hT 1 [5,6] (k':=stackAt (Try.f38.body.getD .skip) [1,1,0,2] []) (st':=⟨8,[(5,.own 0 2 0 ([]:List api_Pair).length),(6,.d (.sl tg xs.length (vec api_Pair.e api_Pair.z xs)))],[.flat false 2 76 ([]:List api_Pair).length (vec api_Pair.e api_Pair.z [])]⟩) (by kernel_rfl) ?_
  refine ak_appendL (id:=0) (kk:=2) (by':=16) (t:=44) (e:=76) (z:=[.int .i64 0,.int .i64 0]) (dst:=some 7) (k':=stackAt (Try.f38.body.getD .skip) [1,1,0,3] []) (x:=.d (.sl tg xs.length (vec api_Pair.e api_Pair.z xs))) hT api_Pair.e api_Pair.z [] xs [7] (by kernel_rfl) (by kernel_rfl) (.sl fun _ _=>rfl) (by kernel_rfl) (by kernel_rfl) (by kernel_rfl) (by kernel_rfl) (by simpa using hb) (by simp;omega) (st':=⟨8,[(7,.own 1 2 0 ([] ++ xs).length)],[.gone,.flat false 2 76 ([] ++ xs).length (vec api_Pair.e api_Pair.z ([] ++ xs))]⟩) (by kernel_rfl) ?_
  refine go hT 2 [2] (k':=stackAt (Try.f38.body.getD .skip) [1,1,1] []) (st':=⟨8,[(2,.own 1 2 0 xs.length)],[.gone,.flat false 2 76 xs.length (vec api_Pair.e api_Pair.z xs)]⟩) (by kernel_rfl) ?_
  exact ak_ret hf hX (av:=.own 1 2 0 xs.length) (by kernel_rfl) [1] (sel_of_eq (by kernel_rfl)) (by decide) (by rw [h0];rfl) (by kernel_rfl) (fun _ h=>all_cons (nr_vec api_Pair.nl) (fun _ h=>all_nil h) h) (.own _ _ _ _)

theorem tSI97:Try.prog.underlying 44=some (.slice 76):=by kernel_rfl
theorem tII97:Try.prog.underlying 3=some (.int .i64):=by kernel_rfl
theorem szI97:(Try.prog.info? 76).map (·.size)=some 2:=by kernel_rfl

set_option maxHeartbeats 4000000 in
set_option maxRecDepth 100000 in
theorem ins_shift97 (b n c i vb vc:Nat) (A B R V:List Value) (VS:Array Value) (w:World) (hi:i < n) (hroom:n+1≤c) (hc63:c≤9223372036854775807) (hvb:vb≠b)
  (hb:w.heap[b]? = some (.cells (A ++ B ++ R).toArray 76 (0,0))) (hv:w.heap[vb]? = some (.cells VS 76 (0,0))) (hA:A.length=i * 2) (hB:B.length=(n - i) * 2) (hR:2≤R.length) (hV:V.length=2)
  (hVS:∀ (j:Nat) v,V[j]? = some v→VS[j]? = some v) (h1b:∀ v∈B,v.oneCell'=true) (h1v:∀ v∈V,v.oneCell'=true):
  Calls Try.prog 97 #[.slice (some ⟨b,0,none⟩) n c,.int .i64 i,.slice (some ⟨vb,0,none⟩) 1 vc] w fun e w'=>
   e=.returned (.slice (some ⟨b,0,none⟩) (n+1) c)∧w'=(w.drew.setRow b (A ++ (B ++ R).take 2 ++ B ++ R.drop 2).toArray).setRow b (A ++ V ++ B ++ R.drop 2).toArray:=by
 have hz2:¬ ((i:Int)=(n:Int)):=by omega
 have hov:∀ lb cb,(callFunc 101 #[.slice (some ⟨vb,0,none⟩) 1 vc,.slice (some ⟨b,(i+1) * 2,none⟩) lb cb]).run Try.prog w=.ok (.value (.bool false)) w:=fun lb cb=>by
  rw [run_callFunc_extern Try.func101 (by kernel_rfl) (by kernel_rfl) (by kernel_rfl) (e:=Extern.SlicesOverlaps.overlaps #[44,44] #[4]) (by kernel_rfl),
   Lib.run_overlaps_apart w 44 4 76 tSI97 2 (fun w=>by kernel_rfl) ⟨vb,0,none⟩ ⟨b,(i+1) * 2,none⟩ 1 vc lb cb hvb 76 76 VS.size (A ++ B ++ R).toArray.size (by simp only [World.shape?,hv]) (by simp only [World.shape?,hb]) (by simp only [List.size_toArray,List.length_append];omega) (by simp only [World.frozen?,hv];simp) (by simp only [World.frozen?,hv];simp)]
  rfl
 have hcp1:∀ ty dc sc,(Builtin.copy_ #[44,44] ty #[.slice (some ⟨b,(i+1) * 2,none⟩) (n - i) dc,.slice (some ⟨b,i * 2,none⟩) (n+1 - i) sc]).run Try.prog w.drew=.ok (goInt (n - i:Nat)) (w.drew.setRow b (A ++ (B ++ R).take 2 ++ B ++ R.drop 2).toArray):=fun ty dc sc=>by
  have:=copy_in (sT:=44) tSI97 szI97 w.drew b 76 A B R (i * 2) (n - i) hA hB hR hb h1b ty (n - i) dc (n+1 - i) sc (by show _=min _ _;omega)
  rwa [show i * 2+2=(i+1) * 2 by omega] at this
 obtain ⟨W1,hW1⟩:∃ W1,W1=w.drew.setRow b (A ++ (B ++ R).take 2 ++ B ++ R.drop 2).toArray:=⟨_,rfl⟩
 have hb1:W1.heap[b]? = some (.cells (A ++ (B ++ R).take 2 ++ (B ++ R.drop 2)).toArray 76 (0,0)):=by
  rw [hW1]
  have:=setRow_heap w.drew b _ (A ++ (B ++ R).take 2 ++ B ++ R.drop 2).toArray _ _ hb
  rw [this]
  simp only [List.append_assoc]
 have hv1:W1.heap[vb]? = some (.cells VS 76 (0,0)):=by
  rw [hW1,setRow_other _ _ _ _ hvb]
  exact hv
 have hcp2:∀ (W:World),W.heap=W1.heap→∀ ty dc,(Builtin.copy_ #[44,44] ty #[.slice (some ⟨b,i * 2,none⟩) (n+1 - i) dc,.slice (some ⟨vb,0,none⟩) 1 vc]).run Try.prog W=.ok (goInt 1) (W.setRow b (A ++ V ++ B ++ R.drop 2).toArray):=fun W hW ty dc=>by
  have:=copy_from (sT:=44) tSI97 szI97 W b vb 76 76 A ((B ++ R).take 2) (B ++ R.drop 2) VS V (i * 2) 0 1 hA (by simp;omega) (by omega) (by rw [hW];exact hb1) (by rw [hW];exact hv1) (fun j v hj=>by rw [Nat.zero_add];exact hVS j v hj) h1v ty (n+1 - i) dc 1 vc (by show _=min _ _;omega)
  rw [this]
  simp only [List.append_assoc,goInt]
  rfl
 rw [← hW1] at hcp1
 have hg1:goInt (1:Nat)=.int .i64 1:=rfl
 have hw1:IntKind.i64.wrap ((i:Int)+1)=(i:Int)+1:=by rw [IntKind.wrap_i64];omega
 have hbz:(0:Int)≤(i:Int)+1:=by omega
 have mixed:Try.prog.follows Departure.mixedOrders=true:=by kernel_rfl
 have hbn:(i:Int)≤(n:Int)+1:=by omega
 have hin:i≤n:=by omega
 have hb2:¬ (c=i+1):=by omega
 have hb4:¬ (c=i):=by omega
 rw [← hW1]
 go_enter Try.func97,Try.ntmps97
 go_wp2_with (simp only [hov])
 go_region_law_o (refine step_copy_runI rfl _ _ 44 44 rfl _ _ (by simp [Act.eval,Act.put]) (by simp [Act.eval,Act.put]) (hcp1 _ _ _) ?_)
 go_wp2_with (at_builtin;refine wpList_copy_runI _ rfl _ _ 44 44 rfl _ _ rfl rfl (hcp2 _ (by first | rfl | (rw [hW1];rfl)) _ _) ?_)
 go_ret
 exact ⟨rfl,by rw [hW1];simp only [List.append_assoc]⟩

set_option maxHeartbeats 4000000 in
set_option maxRecDepth 100000 in
theorem ins_end97 (base:Option Addr) (n c vb vc:Nat) (w w':World) (v':Value) (hnc:n≤c) (hc63:c≤9223372036854775807) (hnil:base=none→n=0∧c=0)
  (hr:(Builtin.append_ #[44,44] 44 #[.slice base n c,.slice (some ⟨vb,0,none⟩) 1 vc]).run Try.prog w=.ok v' w'):
  Calls Try.prog 97 #[.slice base n c,.int .i64 n,.slice (some ⟨vb,0,none⟩) 1 vc] w fun e w2=>e=.returned v'∧w2=w':=by
 cases base with
 | none=>
  obtain ⟨rfl,rfl⟩:=hnil rfl
  go_enter Try.func97,Try.ntmps97
  go_wp2_with (at_builtin;refine Lib.wpList_append_run _ rfl _ _ _ _ rfl _ _ rfl rfl _ _ hr ?_)
  all_goals (go_ret;exact ⟨rfl,rfl⟩)
 | some a=>
  go_enter Try.func97,Try.ntmps97
  go_wp2_with (at_builtin;refine Lib.wpList_append_run _ rfl _ _ _ _ rfl _ _ rfl rfl _ _ hr ?_)
  all_goals (go_ret;exact ⟨rfl,rfl⟩)

set_option maxHeartbeats 4000000 in
set_option maxRecDepth 100000 in
theorem ins_grow97 (b n c i vb vc:Nat) (A B R V:List Value) (VS:Array Value) (w:World) (hi:i < n) (hnc:n≤c) (hroom:c < n+1) (hbig:(n+1) * 16≤140737488355328) (hvb:vb≠b)
  (hb:w.heap[b]? = some (.cells (A ++ B ++ R).toArray 76 (0,0))) (hv:w.heap[vb]? = some (.cells VS 76 (0,0))) (hA:A.length=i * 2) (hB:B.length=(n - i) * 2) (hV:V.length=2)
  (hVS:∀ (j:Nat) v,V[j]? = some v→VS[j]? = some v) (h1b:∀ v∈B,v.oneCell'=true) (h1v:∀ v∈V,v.oneCell'=true):
  Calls Try.prog 97 #[.slice (some ⟨b,0,none⟩) n c,.int .i64 i,.slice (some ⟨vb,0,none⟩) 1 vc] w fun e w'=>
   e=.returned (.slice (some ⟨w.heap.size,0,none⟩) (n+1) (grownCap w (n+1) c 76))∧∃ Z:List Value,Z.length=(grownCap w (n+1) c 76 - (n+1)) * 2∧w'=(w.drew.alloc (.cells (A ++ V ++ B ++ Z).toArray 76)).drew:=by
 obtain ⟨i0,hi0,hs0,hb0,hz0⟩:=tokI.infoAt (show TI.info.lookup 76=some (2,16,[.int .i64 0,.int .i64 0]) from rfl)
 obtain ⟨zv,hzv,hzc⟩:=Option.map_eq_some_iff.1 hz0
 have hzs:zv.cells.size=2:=by rw [hzc];rfl
 have mixed:Try.prog.follows Departure.mixedOrders=true:=by kernel_rfl
 have hz2:¬ ((i:Int)=(n:Int)):=by omega
 have hz3:(c:Int) < (n:Int)+1:=by omega
 have hbw:b < w.heap.size:=(Array.getElem?_eq_some_iff.1 hb).1
 have hvw:vb < w.heap.size:=(Array.getElem?_eq_some_iff.1 hv).1
 have hold:(Builtin.firstCells i0.size i (.slice (some ⟨b,0,none⟩) i c)).run Try.prog w.drew=.ok A.toArray w.drew:=by
  rw [hs0]
  exact run_firstCells_some w.drew 2 i ⟨b,0,none⟩ i c A hA (fun j v hj=>by
   rw [Addr.add_lit,Nat.zero_add]
   have:w.drew.heap[b]? = some (.cells (A ++ B ++ R).toArray 76 (0,0)):=hb
   simp only [World.cell?,this,List.getElem?_toArray,List.append_assoc]
   rw [List.getElem?_append_left (List.getElem?_eq_some_iff.1 hj).1,hj]
   rfl)
 obtain ⟨G,hG⟩:∃ G,G=grownCap w (n+1) c 76:=⟨_,rfl⟩
 have hGn:n+1≤G:=by rw [hG];exact grownCap_ge w _ _ _
 have hG63:G≤9223372036854775807:=by
  have:=grownCap_le_maxLen w (n+1) c 76 (by unfold maxLen;omega)
  rw [← hG] at this
  unfold maxLen at this
  omega
 obtain ⟨ZZ,hZl,hZZ⟩:∃ ZZ:List Value,ZZ.length=(G - i) * 2∧A.toArray ++ Builtin.zeroCells zv.cells (n+1 - i) ++ Builtin.zeroCells zv.cells (G - (n+1))=(A ++ ZZ).toArray:=by
  refine ⟨(Builtin.zeroCells zv.cells (n+1 - i) ++ Builtin.zeroCells zv.cells (G - (n+1))).toList, ?_, ?_⟩
  ·rw [Array.length_toList,Array.size_append,size_zeroCells,size_zeroCells,hzs]
   omega
  ·apply Array.ext'
   simp
 have hrz:∀ ty,(Builtin.append_ #[44,3] ty #[.slice (some ⟨b,0,none⟩) i c,.int .i64 ((n:Int)+1 - (i:Int))]).run Try.prog w =
   .ok (.slice (some ⟨w.heap.size,0,none⟩) (n+1) G) (w.drew.alloc (.cells (A ++ ZZ).toArray 76)):=fun ty=>by
  have h:=Lib.run_append_grow_zeros w 44 3 ty 76 i0 zv .i64 .i64 tSI97 tII97 hi0 hzv (some ⟨b,0,none⟩) i c A hold (n+1 - i) (by omega) (by omega) (by omega) (by omega) (by rw [hb0];omega) (by rw [hb0,show i+(n+1 - i)=n+1 by omega];exact growslice_fits hroom hbig)
  rw [show i+(n+1 - i)=n+1 by omega,← hG,hZZ] at h
  rw [show (n:Int)+1 - (i:Int)=((n+1 - i:Nat):Int) by omega]
  exact h
 obtain ⟨W1,hW1⟩:∃ W1,W1=w.drew.alloc (.cells (A ++ ZZ).toArray 76):=⟨_,rfl⟩
 have hN1:W1.heap[w.heap.size]? = some (.cells (A ++ ZZ.take 2 ++ ZZ.drop 2).toArray 76 (0,0)):=by
  rw [hW1,List.append_assoc,List.take_append_drop]
  exact heap_alloc_new w.drew _
 have hb1:W1.heap[b]? = some (.cells (A ++ B ++ R).toArray 76 (0,0)):=by
  rw [hW1]
  exact (Array.getElem?_push_lt hbw).trans ((Array.getElem?_eq_getElem hbw).symm.trans hb)
 have hv1:W1.heap[vb]? = some (.cells VS 76 (0,0)):=by
  rw [hW1]
  exact (Array.getElem?_push_lt hvw).trans ((Array.getElem?_eq_getElem hvw).symm.trans hv)
 have hset:∀ (cs:Array Value),W1.setRow w.heap.size cs=w.drew.alloc (.cells cs 76):=fun cs=>by
  rw [hW1]
  exact setRow_alloc w.drew _ _ _ _ rfl
 have hcpA:∀ ty dc,(Builtin.copy_ #[44,44] ty #[.slice (some ⟨w.heap.size,i * 2,none⟩) (n+1 - i) dc,.slice (some ⟨vb,0,none⟩) 1 vc]).run Try.prog W1=.ok (goInt 1) (w.drew.alloc (.cells (A ++ V ++ ZZ.drop 2).toArray 76)):=fun ty dc=>by
  have:=copy_from (sT:=44) tSI97 szI97 W1 w.heap.size vb 76 76 A (ZZ.take 2) (ZZ.drop 2) VS V (i * 2) 0 1 hA (by simp;omega) (by omega) hN1 hv1 (fun j v hj=>by rw [Nat.zero_add];exact hVS j v hj) h1v ty (n+1 - i) dc 1 vc (by show _=min _ _;omega)
  rw [this,hset]
  rfl
 obtain ⟨W2,hW2⟩:∃ W2,W2=w.drew.alloc (.cells (A ++ V ++ ZZ.drop 2).toArray 76):=⟨_,rfl⟩
 have hN2:W2.drew.heap[w.heap.size]? = some (.cells ((A ++ V) ++ (ZZ.drop 2).take B.length ++ (ZZ.drop 2).drop B.length).toArray 76 (0,0)):=by
  rw [hW2,List.append_assoc (A ++ V),List.take_append_drop]
  exact heap_alloc_new w.drew _
 have hb2':W2.drew.heap[b]? = some (.cells (A ++ B ++ R).toArray 76 (0,0)):=by
  rw [hW2]
  exact (Array.getElem?_push_lt hbw).trans ((Array.getElem?_eq_getElem hbw).symm.trans hb)
 have hset2:∀ (cs:Array Value),W2.drew.setRow w.heap.size cs=(w.drew.alloc (.cells cs 76)).drew:=fun cs=>by
  rw [hW2]
  exact congrArg World.drew (setRow_alloc w.drew _ _ _ _ rfl)
 have hcpB:∀ ty dc sc,(Builtin.copy_ #[44,44] ty #[.slice (some ⟨w.heap.size,(i+1) * 2,none⟩) (n - i) dc,.slice (some ⟨b,i * 2,none⟩) (n - i) sc]).run Try.prog W2.drew=.ok (goInt (n - i:Nat)) (w.drew.alloc (.cells (A ++ V ++ B ++ (ZZ.drop 2).drop B.length).toArray 76)).drew:=fun ty dc sc=>by
  have:=copy_from (sT:=44) tSI97 szI97 W2.drew w.heap.size b 76 76 (A ++ V) ((ZZ.drop 2).take B.length) ((ZZ.drop 2).drop B.length) (A ++ B ++ R).toArray B ((i+1) * 2) (i * 2) (n - i) (by rw [List.length_append];omega) (by simp;omega) hB hN2 hb2' (fun j v hj=>by
   simp only [List.getElem?_toArray]
   rw [← hA,List.append_assoc,List.getElem?_append_right (by omega),Nat.add_sub_cancel_left,List.getElem?_append_left (List.getElem?_eq_some_iff.1 hj).1,hj]) h1b ty (n - i) dc (n - i) sc (by show _=min _ _;omega)
  rw [this,hset2]
 rw [← hW1] at hrz
 rw [← hW2] at hcpA
 have hw1:IntKind.i64.wrap ((i:Int)+1)=(i:Int)+1:=by rw [IntKind.wrap_i64];omega
 have hbz:(0:Int)≤(i:Int)+1:=by omega
 have hin:i≤n:=by omega
 have hbn:(i:Int)≤(n:Int)+1:=by omega
 have hGi:¬ (G=i):=by omega
 have hGi1:¬ (G=i+1):=by omega
 have hci:¬ (c=i):=by omega
 refine Calls.mono (R:=fun e w'=>e=.returned (.slice (some ⟨w.heap.size,0,none⟩) (n+1) G)∧w'=(w.drew.alloc (.cells (A ++ V ++ B ++ (ZZ.drop 2).drop B.length).toArray 76)).drew) ?_ ?_
 ·clear hW1 hW2 hN1 hN2 hb1 hv1 hset hset2 hb2' hZZ hold hG
  go_enter Try.func97,Try.ntmps97
  go_wp2_with (first
   | (at_builtin;refine Lib.wpList_append_run _ rfl _ _ _ _ rfl _ _ rfl rfl _ _ (hrz _) ?_)
   | (at_builtin;refine wpList_copy_runI _ rfl _ _ 44 44 rfl _ _ rfl rfl (hcpA _ _) ?_))
  go_region_law_o (refine step_copy_runI rfl _ _ 44 44 rfl _ _ (by simp [Act.eval,Act.put]) (by simp [Act.eval,Act.put]) (hcpB _ _ _) ?_)
  go_wp2
  go_ret
  exact ⟨rfl,by simp only [List.append_assoc,List.drop_drop,hB];rfl⟩
 ·rintro e w' ⟨rfl,rfl⟩
  refine ⟨by rw [hG],_, ?_,rfl⟩
  rw [← hG,List.length_drop,List.length_drop,hZl,hB]
  omega
theorem insert97 (xs:List api_Pair) (i:Int) (x:api_Pair) (h:(0≤i∧i≤(xs.length:Int))∧(xs.length+1) * 16≤140737488355328):
  Says Try.prog 97 [.flat false 2 76 xs.length (vec api_Pair.e api_Pair.z xs),.flat false 2 76 1 (fun j=>[api_Pair.e x].getD j [])] [.own 0 2 0 xs.length,.d (.v (.int .i64 i)),.own 1 2 0 1]
   [.gone,.gone,.flat false 2 76 (xs.take i.toNat ++ x :: xs.drop i.toNat).length (vec api_Pair.e api_Pair.z (xs.take i.toNat ++ x :: xs.drop i.toNat))] (.own 2 2 0 (xs.take i.toNat ++ x :: xs.drop i.toNat).length):=
 insert_says tokI (t:=44) api_Pair.z 2 16 (by decide) rfl rfl rfl (fun x:api_Pair=>[.int .i64 x.Key,.int .i64 x.Val]) (fun _=>rfl) (fun x v h=>by simp at h;rcases h with rfl | rfl<;>rfl) api_Pair.e (fun _=>rfl) ins_end97
  (fun b n c i vb vc A B R V VS w h1 h2 h3 h4 h5 h6 h7 h8 h9 h10 h11 h12 h13=>ins_shift97 b n c i vb vc A B R V VS w h1 h2 h3 h4 h5 h6 h7 h8 h9 h10 h11 h12 h13)
  (fun b n c i vb vc A B R V VS w h1 h2 h3 h4 h5 h6 h7 h8 h9 h10 h11 h12 h13=>ins_grow97 b n c i vb vc A B R V VS w h1 h2 h3 h4 h5 h6 h7 h8 h9 h10 h11 h12 h13)
  xs i x h (by have:=h.2;omega)
end Go.SyP
