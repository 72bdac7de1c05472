/- Contracts of the library at this seat. -/
import Derived.Test.YtdhmflhncidjaaaGreatSyDel
import Derived.Test.YtdhmflhncidjaaaGreatGthzD
import Derived.Test.YtdhmflhncidjaaaGreatSyRun
import Derived.Test.YtdhmflhncidjaaaGreatSyQ
import Derived.Test.YtdhmflhncidjaaaGreatSyU
import Derived.Shelf.Spec.SlicesInsertGrow
import Derived.Test.YtdhmflhncidjaaaGreatGthzS
set_option linter.unusedVariables false
set_option linter.unusedSimpArgs false
namespace Go.SyP
open Go Go.Sy Go.Proofs Go.Lib Go.RowKit
def TI:Tab where
 info:=[(3,1,8,[.int .i64 0]),(24,2,16,[.int .i64 0,.int .i64 0]),(25,1,24,[.slice none 0 0]),(26,1,24,[.slice none 0 0]),(27,1,24,[.slice none 0 0]),(28,1,24,[.slice none 0 0]),(68,1,24,[.slice none 0 0]),(97,2,16,[.int .i64 0,.int .i64 0]),(131,4,32,[.int .i64 0,.int .i64 0,.int .i64 0,.bool false]),(138,10,112,[.int .i64 0,.int .i64 0,.int .i64 0,.slice none 0 0,.int .i64 0,.int .i64 0,.int .i64 0,.int .i64 0,.bool false,.slice none 0 0]),(141,9,88,[.int .i64 0,.int .i64 0,.int .i64 0,.slice none 0 0,.int .i64 0,.int .i64 0,.int .i64 0,.int .i64 0,.bool false])]
 Qkp:=[(3,false),(24,true),(25,false),(26,false),(27,false),(28,false),(68,false),(97,true),(131,true),(138,true),(141,true)]
 Qbn:=[(25,138),(26,97),(27,141),(28,131),(68,24)]
 Qly:=[]
theorem Qjw:Qw Tryz.prog TI:=⟨by kernel_rfl,by kernel_rfl,by kernel_rfl,by kernel_rfl,by kernel_rfl,by kernel_rfl,by kernel_rfl,by kernel_rfl,by kernel_rfl,by kernel_rfl,by kernel_rfl,by kernel_rfl⟩
theorem Wc1:Sy.Enters Tryz.prog 143:=Qy Tryz.func143 (by kernel_rfl) (by kernel_rfl)
theorem Wc2:Sy.Enters Tryz.prog 144:=Qy Tryz.func144 (by kernel_rfl) (by kernel_rfl)
theorem Wc3:Sy.Enters Tryz.prog 145:=Qy Tryz.func145 (by kernel_rfl) (by kernel_rfl)
theorem Wdd:Sy.Enters Tryz.prog 183:=Qy Tryz.func183 (by kernel_rfl) (by kernel_rfl)
theorem Qrj {tg:Bool} (xs:List Qa) (hb:xs.length * 16<=140737488355328):
  Xt Tryz.prog 39 [] [.d (.sl tg xs.length (vec Qa.e Qa.z xs))] [.flat false 2 97 xs.length (vec Qa.e Qa.z xs)] (.own 0 2 0 xs.length):=by
 refine Wx Tryz.func39 rfl (nt:=8) rfl (lb rfl) fun X hP h0 hX=>?_
 have hT:Qw X.P TI:=hP▸Qjw
 have hf:X.P.funcs[39]? = some Tryz.f39:=hP▸Tryz.func39
 refine go hT 8 [0,3] (k':=Qv (Tryz.f39.body.getD .skip) [1,0,0,1] []) (st':=⟨8,[(0,.d (.sl tg xs.length (vec Qa.e Qa.z xs))),(3,.d (.sl tg xs.length (vec Qa.e Qa.z xs)))],[]⟩) (by kernel_rfl) ?_
 refine Qnb (eq:=true) (n:=xs.length) (dst:=some 4) (k':=Qv (Tryz.f39.body.getD .skip) [1,0,0,2] []) hT [0,4] (st':=fun b=>⟨8,[(0,.d (.sl tg xs.length (vec Qa.e Qa.z xs))),(4,.d (.v (.bool b)))],[]⟩) (by kernel_rfl) (fun b=>by kernel_rfl) ?_
 intro b hbn
 cases b with
 | true=>
  have hx:xs=[]:=List.length_eq_zero_iff.1 (hbn rfl)
  subst hx
  refine go hT 6 [2] (k':=Qv (Tryz.f39.body.getD .skip) [1,0,1,0,1] []) (st':=⟨8,[(2,.d (.v (.slice none 0 0)))],[]⟩) (by kernel_rfl) ?_
  refine Qd1 [2] 2 2 97 (vec Qa.e Qa.z []) (st':=⟨8,[(2,.own 0 2 0 0)],[.flat false 2 97 0 (vec Qa.e Qa.z [])]⟩) (by kernel_rfl) (by kernel_rfl) ?_
  exact Qf9 hf hX (av:=.own 0 2 0 0) (by kernel_rfl) [0] (Qal (by kernel_rfl)) (by decide) (by rw [h0];rfl) (by kernel_rfl) (ac (Xa Qa.nl) an) (.own _ _ _ _)
 | false=>
  refine go hT 5 [0] (k':=Qv (Tryz.f39.body.getD .skip) [1,1,0,0] []) (st':=⟨8,[(0,.d (.sl tg xs.length (vec Qa.e Qa.z xs)))],[]⟩) (by kernel_rfl) ?_
  refine Qna (e:=97) (s:=2) (dst:=some 5) (k':=Qv (Tryz.f39.body.getD .skip) [1,1,0,1] []) hT [0,5] (vec Qa.e Qa.z []) (by kernel_rfl) (st':=⟨8,[(0,.d (.sl tg xs.length (vec Qa.e Qa.z xs))),(5,.own 0 2 0 0)],[.flat false 2 97 0 (vec Qa.e Qa.z [])]⟩) (by kernel_rfl) ?_
  refine go hT 1 [5,6] (k':=Qv (Tryz.f39.body.getD .skip) [1,1,0,2] []) (st':=⟨8,[(5,.own 0 2 0 ([]:List Qa).length),(6,.d (.sl tg xs.length (vec Qa.e Qa.z xs)))],[.flat false 2 97 ([]:List Qa).length (vec Qa.e Qa.z [])]⟩) (by kernel_rfl) ?_
  refine Qiu (id:=0) (kk:=2) (by':=16) (t:=26) (e:=97) (z:=[.int .i64 0,.int .i64 0]) (dst:=some 7) (k':=Qv (Tryz.f39.body.getD .skip) [1,1,0,3] []) (x:=.d (.sl tg xs.length (vec Qa.e Qa.z xs))) hT Qa.e Qa.z [] xs [7] (by kernel_rfl) (by kernel_rfl) (.sl fun _ _=>rfl) (by kernel_rfl) (by kernel_rfl) (by kernel_rfl) (by kernel_rfl) (by simpa using hb) (by simp;omega) (st':=⟨8,[(7,.own 1 2 0 ([] ++ xs).length)],[.gone,.flat false 2 97 ([] ++ xs).length (vec Qa.e Qa.z ([] ++ xs))]⟩) (by kernel_rfl) ?_
  refine go hT 2 [2] (k':=Qv (Tryz.f39.body.getD .skip) [1,1,1] []) (st':=⟨8,[(2,.own 1 2 0 xs.length)],[.gone,.flat false 2 97 xs.length (vec Qa.e Qa.z xs)]⟩) (by kernel_rfl) ?_
  exact Qf9 hf hX (av:=.own 1 2 0 xs.length) (by kernel_rfl) [1] (Qal (by kernel_rfl)) (by decide) (by rw [h0];rfl) (by kernel_rfl) (ac (Xa Qa.nl) an) (.own _ _ _ _)
theorem Qrx:Tryz.prog.underlying 28=some (.slice 131):=by kernel_rfl
theorem Wpw:Tryz.prog.underlying 3=some (.int .i64):=by kernel_rfl
theorem Qxq:(Tryz.prog.info? 131).map (·.size)=some 4:=by kernel_rfl
set_option maxHeartbeats 4000000 in
set_option maxRecDepth 100000 in
theorem Wau (b n c i vb vc:Nat) (A B R V:List Value) (VS:Array Value) (w:World) (hi:i < n) (Qgt:n+1<=c) (Wjs:c<=9223372036854775807) (hvb:vb≠b)
  (hb:w.heap[b]? = some (.cells (A ++ B ++ R).toArray 131 (0,0))) (hv:w.heap[vb]? = some (.cells VS 131 (0,0))) (hA:A.length=i * 4) (hB:B.length=(n - i) * 4) (hR:4<=R.length) (hV:V.length=4)
  (hVS:∀ (j:Nat) v,V[j]? = some v->VS[j]? = some v) (h1b:∀ v∈B,v.oneCell'=true) (h1v:∀ v∈V,v.oneCell'=true):
  Calls Tryz.prog 71 #[.slice (some ⟨b,0,none⟩) n c,.int .i64 i,.slice (some ⟨vb,0,none⟩) 1 vc] w fun e w'=>
   e=.returned (.slice (some ⟨b,0,none⟩) (n+1) c)/\w'=(w.drew.setRow b (A ++ (B ++ R).take 4 ++ B ++ R.drop 4).toArray).setRow b (A ++ V ++ B ++ R.drop 4).toArray:=by
 have hz2:¬ ((i:Int)=(n:Int)):=by omega
 have hov:∀ lb cb,(callFunc 121 #[.slice (some ⟨vb,0,none⟩) 1 vc,.slice (some ⟨b,(i+1) * 4,none⟩) lb cb]).run Tryz.prog w=.ok (.value (.bool false)) w:=fun lb cb=>by
  rw [run_callFunc_extern Tryz.func121 (by kernel_rfl) (by kernel_rfl) (by kernel_rfl) (e:=Extern.SlicesOverlaps.overlaps #[28,28] #[4]) (by kernel_rfl),
   Lib.run_overlaps_apart w 28 4 131 Qrx 4 (fun w=>by kernel_rfl) ⟨vb,0,none⟩ ⟨b,(i+1) * 4,none⟩ 1 vc lb cb hvb 131 131 VS.size (A ++ B ++ R).toArray.size (by simp only [World.shape?,hv]) (by simp only [World.shape?,hb]) (by simp only [List.size_toArray,List.length_append];omega) (by simp only [World.frozen?,hv];simp) (by simp only [World.frozen?,hv];simp)]
  rfl
 have Qyu:∀ ty dc sc,(Builtin.copy_ #[28,28] ty #[.slice (some ⟨b,(i+1) * 4,none⟩) (n - i) dc,.slice (some ⟨b,i * 4,none⟩) (n+1 - i) sc]).run Tryz.prog w.drew=.ok (goInt (n - i:Nat)) (w.drew.setRow b (A ++ (B ++ R).take 4 ++ B ++ R.drop 4).toArray):=fun ty dc sc=>by
  have:=Wbh (sT:=28) Qrx Qxq w.drew b 131 A B R (i * 4) (n - i) hA hB hR hb h1b ty (n - i) dc (n+1 - i) sc (by show _=min _ _;omega)
  rwa [show i * 4+4=(i+1) * 4 by omega] at this
 obtain ⟨W1,hW1⟩:∃ W1,W1=w.drew.setRow b (A ++ (B ++ R).take 4 ++ B ++ R.drop 4).toArray:=⟨_,rfl⟩
 have hb1:W1.heap[b]? = some (.cells (A ++ (B ++ R).take 4 ++ (B ++ R.drop 4)).toArray 131 (0,0)):=by
  rw [hW1]
  have:=setRow_heap w.drew b _ (A ++ (B ++ R).take 4 ++ B ++ R.drop 4).toArray _ _ hb
  rw [this]
  simp only [List.append_assoc]
 have hv1:W1.heap[vb]? = some (.cells VS 131 (0,0)):=by
  rw [hW1,setRow_other _ _ _ _ hvb]
  exact hv
 have Wjt:∀ (W:World),W.heap=W1.heap->∀ ty dc,(Builtin.copy_ #[28,28] ty #[.slice (some ⟨b,i * 4,none⟩) (n+1 - i) dc,.slice (some ⟨vb,0,none⟩) 1 vc]).run Tryz.prog W=.ok (goInt 1) (W.setRow b (A ++ V ++ B ++ R.drop 4).toArray):=fun W hW ty dc=>by
  have:=Qjy (sT:=28) Qrx Qxq W b vb 131 131 A ((B ++ R).take 4) (B ++ R.drop 4) VS V (i * 4) 0 1 hA (by simp;omega) (by omega) (by rw [hW];exact hb1) (by rw [hW];exact hv1) (fun j v hj=>by rw [Nat.zero_add];exact hVS j v hj) h1v ty (n+1 - i) dc 1 vc (by show _=min _ _;omega)
  rw [this]
  simp only [List.append_assoc,goInt]
  rfl
 rw [<- hW1] at Qyu
 have hg1:goInt (1:Nat)=.int .i64 1:=rfl
 have hw1:IntKind.i64.wrap ((i:Int)+1)=(i:Int)+1:=by rw [IntKind.wrap_i64];omega
 have hbz:(0:Int)<=(i:Int)+1:=by omega
 have mixed:Tryz.prog.follows Departure.mixedOrders=true:=by kernel_rfl
 have hbn:(i:Int)<=(n:Int)+1:=by omega
 have hin:i<=n:=by omega
 have hb2:¬ (c=i+1):=by omega
 have hb4:¬ (c=i):=by omega
 rw [<- hW1]
 go_enter Tryz.func71,Tryz.ntmps71
 go_wp2_with (simp only [hov])
 go_region_law_o (refine step_copy_runI rfl _ _ 28 28 rfl _ _ (by simp [Act.eval,Act.put]) (by simp [Act.eval,Act.put]) (Qyu _ _ _) ?_)
 go_wp2_with (at_builtin;refine wpList_copy_runI _ rfl _ _ 28 28 rfl _ _ rfl rfl (Wjt _ (by first | rfl | (rw [hW1];rfl)) _ _) ?_)
 go_ret
 exact ⟨rfl,by rw [hW1];simp only [List.append_assoc]⟩
set_option maxHeartbeats 4000000 in
set_option maxRecDepth 100000 in
theorem Wha (base:Option Addr) (n c vb vc:Nat) (w w':World) (v':Value) (hnc:n<=c) (Wjs:c<=9223372036854775807) (Qy0:base=none->n=0/\c=0)
  (hr:(Builtin.append_ #[28,28] 28 #[.slice base n c,.slice (some ⟨vb,0,none⟩) 1 vc]).run Tryz.prog w=.ok v' w'):
  Calls Tryz.prog 71 #[.slice base n c,.int .i64 n,.slice (some ⟨vb,0,none⟩) 1 vc] w fun e w2=>e=.returned v'/\w2=w':=by
 cases base with
 | none=>
  obtain ⟨rfl,rfl⟩:=Qy0 rfl
  go_enter Tryz.func71,Tryz.ntmps71
  go_wp2_with (at_builtin;refine Lib.wpList_append_run _ rfl _ _ _ _ rfl _ _ rfl rfl _ _ hr ?_)
  all_goals (go_ret;exact ⟨rfl,rfl⟩)
 | some a=>
  go_enter Tryz.func71,Tryz.ntmps71
  go_wp2_with (at_builtin;refine Lib.wpList_append_run _ rfl _ _ _ _ rfl _ _ rfl rfl _ _ hr ?_)
  all_goals (go_ret;exact ⟨rfl,rfl⟩)
set_option maxHeartbeats 4000000 in
set_option maxRecDepth 100000 in
theorem Wd8 (b n c i vb vc:Nat) (A B R V:List Value) (VS:Array Value) (w:World) (hi:i < n) (hnc:n<=c) (Qgt:c < n+1) (Qys:(n+1) * 32<=140737488355328) (hvb:vb≠b)
  (hb:w.heap[b]? = some (.cells (A ++ B ++ R).toArray 131 (0,0))) (hv:w.heap[vb]? = some (.cells VS 131 (0,0))) (hA:A.length=i * 4) (hB:B.length=(n - i) * 4) (hV:V.length=4)
  (hVS:∀ (j:Nat) v,V[j]? = some v->VS[j]? = some v) (h1b:∀ v∈B,v.oneCell'=true) (h1v:∀ v∈V,v.oneCell'=true):
  Calls Tryz.prog 71 #[.slice (some ⟨b,0,none⟩) n c,.int .i64 i,.slice (some ⟨vb,0,none⟩) 1 vc] w fun e w'=>
   e=.returned (.slice (some ⟨w.heap.size,0,none⟩) (n+1) (grownCap w (n+1) c 131))/\∃ Z:List Value,Z.length=(grownCap w (n+1) c 131 - (n+1)) * 4/\w'=(w.drew.alloc (.cells (A ++ V ++ B ++ Z).toArray 131)).drew:=by
 obtain ⟨i0,hi0,hs0,hb0,hz0⟩:=Qjw.infoAt (show TI.info.lookup 131=some (4,32,[.int .i64 0,.int .i64 0,.int .i64 0,.bool false]) from rfl)
 obtain ⟨zv,hzv,hzc⟩:=Option.map_eq_some_iff.1 hz0
 have hzs:zv.cells.size=4:=by rw [hzc];rfl
 have mixed:Tryz.prog.follows Departure.mixedOrders=true:=by kernel_rfl
 have hz2:¬ ((i:Int)=(n:Int)):=by omega
 have hz3:(c:Int) < (n:Int)+1:=by omega
 have hbw:b < w.heap.size:=(Array.getElem?_eq_some_iff.1 hb).1
 have hvw:vb < w.heap.size:=(Array.getElem?_eq_some_iff.1 hv).1
 have hold:(Builtin.firstCells i0.size i (.slice (some ⟨b,0,none⟩) i c)).run Tryz.prog w.drew=.ok A.toArray w.drew:=by
  rw [hs0]
  exact run_firstCells_some w.drew 4 i ⟨b,0,none⟩ i c A hA (fun j v hj=>by
   rw [Addr.add_lit,Nat.zero_add]
   have:w.drew.heap[b]? = some (.cells (A ++ B ++ R).toArray 131 (0,0)):=hb
   simp only [World.cell?,this,List.getElem?_toArray,List.append_assoc]
   rw [List.getElem?_append_left (List.getElem?_eq_some_iff.1 hj).1,hj]
   rfl)
 obtain ⟨G,hG⟩:∃ G,G=grownCap w (n+1) c 131:=⟨_,rfl⟩
 have hGn:n+1<=G:=by rw [hG];exact grownCap_ge w _ _ _
 have hG63:G<=9223372036854775807:=by
  have:=grownCap_le_maxLen w (n+1) c 131 (by unfold maxLen;omega)
  rw [<- hG] at this
  unfold maxLen at this
  omega
 obtain ⟨ZZ,hZl,hZZ⟩:∃ ZZ:List Value,ZZ.length=(G - i) * 4/\A.toArray ++ Builtin.zeroCells zv.cells (n+1 - i) ++ Builtin.zeroCells zv.cells (G - (n+1))=(A ++ ZZ).toArray:=by
  refine ⟨(Builtin.zeroCells zv.cells (n+1 - i) ++ Builtin.zeroCells zv.cells (G - (n+1))).toList, ?_, ?_⟩
  ·rw [Array.length_toList,Array.size_append,size_zeroCells,size_zeroCells,hzs]
   omega
  apply Array.ext'
  simp
 have hrz:∀ ty,(Builtin.append_ #[28,3] ty #[.slice (some ⟨b,0,none⟩) i c,.int .i64 ((n:Int)+1 - (i:Int))]).run Tryz.prog w =
   .ok (.slice (some ⟨w.heap.size,0,none⟩) (n+1) G) (w.drew.alloc (.cells (A ++ ZZ).toArray 131)):=fun ty=>by
  have h:=Lib.run_append_grow_zeros w 28 3 ty 131 i0 zv .i64 .i64 Qrx Wpw hi0 hzv (some ⟨b,0,none⟩) i c A hold (n+1 - i) (by omega) (by omega) (by omega) (by omega) (by rw [hb0];omega) (by rw [hb0,show i+(n+1 - i)=n+1 by omega];exact growslice_fits Qgt Qys)
  rw [show i+(n+1 - i)=n+1 by omega,<- hG,hZZ] at h
  rw [show (n:Int)+1 - (i:Int)=((n+1 - i:Nat):Int) by omega]
  exact h
 obtain ⟨W1,hW1⟩:∃ W1,W1=w.drew.alloc (.cells (A ++ ZZ).toArray 131):=⟨_,rfl⟩
 have hN1:W1.heap[w.heap.size]? = some (.cells (A ++ ZZ.take 4 ++ ZZ.drop 4).toArray 131 (0,0)):=by
  rw [hW1,List.append_assoc,List.take_append_drop]
  exact heap_alloc_new w.drew _
 have hb1:W1.heap[b]? = some (.cells (A ++ B ++ R).toArray 131 (0,0)):=by
  rw [hW1]
  exact (Array.getElem?_push_lt hbw).trans ((Array.getElem?_eq_getElem hbw).symm.trans hb)
 have hv1:W1.heap[vb]? = some (.cells VS 131 (0,0)):=by
  rw [hW1]
  exact (Array.getElem?_push_lt hvw).trans ((Array.getElem?_eq_getElem hvw).symm.trans hv)
 have Qju:∀ (cs:Array Value),W1.setRow w.heap.size cs=w.drew.alloc (.cells cs 131):=fun cs=>by
  rw [hW1]
  exact Qki w.drew _ _ _ _ rfl
 have Qyv:∀ ty dc,(Builtin.copy_ #[28,28] ty #[.slice (some ⟨w.heap.size,i * 4,none⟩) (n+1 - i) dc,.slice (some ⟨vb,0,none⟩) 1 vc]).run Tryz.prog W1=.ok (goInt 1) (w.drew.alloc (.cells (A ++ V ++ ZZ.drop 4).toArray 131)):=fun ty dc=>by
  have:=Qjy (sT:=28) Qrx Qxq W1 w.heap.size vb 131 131 A (ZZ.take 4) (ZZ.drop 4) VS V (i * 4) 0 1 hA (by simp;omega) (by omega) hN1 hv1 (fun j v hj=>by rw [Nat.zero_add];exact hVS j v hj) h1v ty (n+1 - i) dc 1 vc (by show _=min _ _;omega)
  rw [this,Qju]
  rfl
 obtain ⟨W2,hW2⟩:∃ W2,W2=w.drew.alloc (.cells (A ++ V ++ ZZ.drop 4).toArray 131):=⟨_,rfl⟩
 have hN2:W2.drew.heap[w.heap.size]? = some (.cells ((A ++ V) ++ (ZZ.drop 4).take B.length ++ (ZZ.drop 4).drop B.length).toArray 131 (0,0)):=by
  rw [hW2,List.append_assoc (A ++ V),List.take_append_drop]
  exact heap_alloc_new w.drew _
 have hb2':W2.drew.heap[b]? = some (.cells (A ++ B ++ R).toArray 131 (0,0)):=by
  rw [hW2]
  exact (Array.getElem?_push_lt hbw).trans ((Array.getElem?_eq_getElem hbw).symm.trans hb)
 have Quf:∀ (cs:Array Value),W2.drew.setRow w.heap.size cs=(w.drew.alloc (.cells cs 131)).drew:=fun cs=>by
  rw [hW2]
  exact congrArg World.drew (Qki w.drew _ _ _ _ rfl)
 have Wju:∀ ty dc sc,(Builtin.copy_ #[28,28] ty #[.slice (some ⟨w.heap.size,(i+1) * 4,none⟩) (n - i) dc,.slice (some ⟨b,i * 4,none⟩) (n - i) sc]).run Tryz.prog W2.drew=.ok (goInt (n - i:Nat)) (w.drew.alloc (.cells (A ++ V ++ B ++ (ZZ.drop 4).drop B.length).toArray 131)).drew:=fun ty dc sc=>by
  have:=Qjy (sT:=28) Qrx Qxq W2.drew w.heap.size b 131 131 (A ++ V) ((ZZ.drop 4).take B.length) ((ZZ.drop 4).drop B.length) (A ++ B ++ R).toArray B ((i+1) * 4) (i * 4) (n - i) (by rw [List.length_append];omega) (by simp;omega) hB hN2 hb2' (fun j v hj=>by
   simp only [List.getElem?_toArray]
   rw [<- hA,List.append_assoc,List.getElem?_append_right (by omega),Nat.add_sub_cancel_left,List.getElem?_append_left (List.getElem?_eq_some_iff.1 hj).1,hj]) h1b ty (n - i) dc (n - i) sc (by show _=min _ _;omega)
  rw [this,Quf]
 rw [<- hW1] at hrz
 rw [<- hW2] at Qyv
 have hw1:IntKind.i64.wrap ((i:Int)+1)=(i:Int)+1:=by rw [IntKind.wrap_i64];omega
 have hbz:(0:Int)<=(i:Int)+1:=by omega
 have hin:i<=n:=by omega
 have hbn:(i:Int)<=(n:Int)+1:=by omega
 have hGi:¬ (G=i):=by omega
 have hGi1:¬ (G=i+1):=by omega
 have hci:¬ (c=i):=by omega
 refine Calls.mono (R:=fun e w'=>e=.returned (.slice (some ⟨w.heap.size,0,none⟩) (n+1) G)/\w'=(w.drew.alloc (.cells (A ++ V ++ B ++ (ZZ.drop 4).drop B.length).toArray 131)).drew) ?_ ?_
 ·clear hW1 hW2 hN1 hN2 hb1 hv1 Qju Quf hb2' hZZ hold hG
  go_enter Tryz.func71,Tryz.ntmps71
  go_wp2_with (first
   | (at_builtin;refine Lib.wpList_append_run _ rfl _ _ _ _ rfl _ _ rfl rfl _ _ (hrz _) ?_)
   | (at_builtin;refine wpList_copy_runI _ rfl _ _ 28 28 rfl _ _ rfl rfl (Qyv _ _) ?_))
  go_region_law_o (refine step_copy_runI rfl _ _ 28 28 rfl _ _ (by simp [Act.eval,Act.put]) (by simp [Act.eval,Act.put]) (Wju _ _ _) ?_)
  go_wp2
  go_ret
  exact ⟨rfl,by simp only [List.append_assoc,List.drop_drop,hB];rfl⟩
 rintro e w' ⟨rfl,rfl⟩
 refine ⟨by rw [hG],_, ?_,rfl⟩
 rw [<- hG,List.length_drop,List.length_drop,hZl,hB]
 omega
theorem Qzc (xs:List Qg) (i:Int) (x:Qg) (h:(0<=i/\i<=(xs.length:Int))/\(xs.length+1) * 32<=140737488355328):
  Xt Tryz.prog 71 [.flat false 4 131 xs.length (vec Qg.e Qg.z xs),.flat false 4 131 1 (fun j=>[Qg.e x].getD j [])] [.own 0 4 0 xs.length,.d (.v (.int .i64 i)),.own 1 4 0 1]
   [.gone,.gone,.flat false 4 131 (xs.take i.toNat ++ x :: xs.drop i.toNat).length (vec Qg.e Qg.z (xs.take i.toNat ++ x :: xs.drop i.toNat))] (.own 2 4 0 (xs.take i.toNat ++ x :: xs.drop i.toNat).length):=
 Qss Qjw (t:=28) Qg.z 4 32 (by decide) rfl rfl rfl (fun x:Qg=>[.int .i64 x.Client,.int .i64 x.Seq,.int .i64 x.Time,.bool x.Qa3]) (fun _=>rfl) (fun x v h=>by simp at h;rcases h with rfl | rfl | rfl | rfl<;>rfl) Qg.e (fun _=>rfl) Wha
  (fun b n c i vb vc A B R V VS w h1 h2 h3 h4 h5 h6 h7 h8 h9 h10 h11 h12 h13=>Wau b n c i vb vc A B R V VS w h1 h2 h3 h4 h5 h6 h7 h8 h9 h10 h11 h12 h13)
  (fun b n c i vb vc A B R V VS w h1 h2 h3 h4 h5 h6 h7 h8 h9 h10 h11 h12 h13=>Wd8 b n c i vb vc A B R V VS w h1 h2 h3 h4 h5 h6 h7 h8 h9 h10 h11 h12 h13)
  xs i x h (by have:=h.2;omega)
theorem Wl8 {tg:Bool} (xs:List Qh) (hb:xs.length * 112<=140737488355328):
  Xt Tryz.prog 72 [] [.d (.sl tg xs.length (vec Qh.e Qh.z xs))] [.flat false 10 138 xs.length (vec Qh.e Qh.z xs)] (.own 0 10 0 xs.length):=by
 refine Wx Tryz.func72 rfl (nt:=8) rfl (lb rfl) fun X hP h0 hX=>?_
 have hT:Qw X.P TI:=hP▸Qjw
 have hf:X.P.funcs[72]? = some Tryz.f72:=hP▸Tryz.func72
 refine go hT 8 [0,3] (k':=Qv (Tryz.f72.body.getD .skip) [1,0,0,1] []) (st':=⟨8,[(0,.d (.sl tg xs.length (vec Qh.e Qh.z xs))),(3,.d (.sl tg xs.length (vec Qh.e Qh.z xs)))],[]⟩) (by kernel_rfl) ?_
 refine Qnb (eq:=true) (n:=xs.length) (dst:=some 4) (k':=Qv (Tryz.f72.body.getD .skip) [1,0,0,2] []) hT [0,4] (st':=fun b=>⟨8,[(0,.d (.sl tg xs.length (vec Qh.e Qh.z xs))),(4,.d (.v (.bool b)))],[]⟩) (by kernel_rfl) (fun b=>by kernel_rfl) ?_
 intro b hbn
 cases b with
 | true=>
  have hx:xs=[]:=List.length_eq_zero_iff.1 (hbn rfl)
  subst hx
  refine go hT 6 [2] (k':=Qv (Tryz.f72.body.getD .skip) [1,0,1,0,1] []) (st':=⟨8,[(2,.d (.v (.slice none 0 0)))],[]⟩) (by kernel_rfl) ?_
  refine Qd1 [2] 2 10 138 (vec Qh.e Qh.z []) (st':=⟨8,[(2,.own 0 10 0 0)],[.flat false 10 138 0 (vec Qh.e Qh.z [])]⟩) (by kernel_rfl) (by kernel_rfl) ?_
  exact Qf9 hf hX (av:=.own 0 10 0 0) (by kernel_rfl) [0] (Qal (by kernel_rfl)) (by decide) (by rw [h0];rfl) (by kernel_rfl) (ac (Xa Qh.nl) an) (.own _ _ _ _)
 | false=>
  refine go hT 5 [0] (k':=Qv (Tryz.f72.body.getD .skip) [1,1,0,0] []) (st':=⟨8,[(0,.d (.sl tg xs.length (vec Qh.e Qh.z xs)))],[]⟩) (by kernel_rfl) ?_
  refine Qna (e:=138) (s:=10) (dst:=some 5) (k':=Qv (Tryz.f72.body.getD .skip) [1,1,0,1] []) hT [0,5] (vec Qh.e Qh.z []) (by kernel_rfl) (st':=⟨8,[(0,.d (.sl tg xs.length (vec Qh.e Qh.z xs))),(5,.own 0 10 0 0)],[.flat false 10 138 0 (vec Qh.e Qh.z [])]⟩) (by kernel_rfl) ?_
  refine go hT 1 [5,6] (k':=Qv (Tryz.f72.body.getD .skip) [1,1,0,2] []) (st':=⟨8,[(5,.own 0 10 0 ([]:List Qh).length),(6,.d (.sl tg xs.length (vec Qh.e Qh.z xs)))],[.flat false 10 138 ([]:List Qh).length (vec Qh.e Qh.z [])]⟩) (by kernel_rfl) ?_
  refine Qiu (id:=0) (kk:=10) (by':=112) (t:=25) (e:=138) (z:=[.int .i64 0,.int .i64 0,.int .i64 0,.slice none 0 0,.int .i64 0,.int .i64 0,.int .i64 0,.int .i64 0,.bool false,.slice none 0 0]) (dst:=some 7) (k':=Qv (Tryz.f72.body.getD .skip) [1,1,0,3] []) (x:=.d (.sl tg xs.length (vec Qh.e Qh.z xs))) hT Qh.e Qh.z [] xs [7] (by kernel_rfl) (by kernel_rfl) (.sl fun _ _=>rfl) (by kernel_rfl) (by kernel_rfl) (by kernel_rfl) (by kernel_rfl) (by simpa using hb) (by simp;omega) (st':=⟨8,[(7,.own 1 10 0 ([] ++ xs).length)],[.gone,.flat false 10 138 ([] ++ xs).length (vec Qh.e Qh.z ([] ++ xs))]⟩) (by kernel_rfl) ?_
  refine go hT 2 [2] (k':=Qv (Tryz.f72.body.getD .skip) [1,1,1] []) (st':=⟨8,[(2,.own 1 10 0 xs.length)],[.gone,.flat false 10 138 xs.length (vec Qh.e Qh.z xs)]⟩) (by kernel_rfl) ?_
  exact Qf9 hf hX (av:=.own 1 10 0 xs.length) (by kernel_rfl) [1] (Qal (by kernel_rfl)) (by decide) (by rw [h0];rfl) (by kernel_rfl) (ac (Xa Qh.nl) an) (.own _ _ _ _)
theorem Wl9 {tg:Bool} (xs:List Qe) (hb:xs.length * 88<=140737488355328):
  Xt Tryz.prog 73 [] [.d (.sl tg xs.length (vec Qe.e Qe.z xs))] [.flat false 9 141 xs.length (vec Qe.e Qe.z xs)] (.own 0 9 0 xs.length):=by
 refine Wx Tryz.func73 rfl (nt:=8) rfl (lb rfl) fun X hP h0 hX=>?_
 have hT:Qw X.P TI:=hP▸Qjw
 have hf:X.P.funcs[73]? = some Tryz.f73:=hP▸Tryz.func73
 refine go hT 8 [0,3] (k':=Qv (Tryz.f73.body.getD .skip) [1,0,0,1] []) (st':=⟨8,[(0,.d (.sl tg xs.length (vec Qe.e Qe.z xs))),(3,.d (.sl tg xs.length (vec Qe.e Qe.z xs)))],[]⟩) (by kernel_rfl) ?_
 refine Qnb (eq:=true) (n:=xs.length) (dst:=some 4) (k':=Qv (Tryz.f73.body.getD .skip) [1,0,0,2] []) hT [0,4] (st':=fun b=>⟨8,[(0,.d (.sl tg xs.length (vec Qe.e Qe.z xs))),(4,.d (.v (.bool b)))],[]⟩) (by kernel_rfl) (fun b=>by kernel_rfl) ?_
 intro b hbn
 cases b with
 | true=>
  have hx:xs=[]:=List.length_eq_zero_iff.1 (hbn rfl)
  subst hx
  refine go hT 6 [2] (k':=Qv (Tryz.f73.body.getD .skip) [1,0,1,0,1] []) (st':=⟨8,[(2,.d (.v (.slice none 0 0)))],[]⟩) (by kernel_rfl) ?_
  refine Qd1 [2] 2 9 141 (vec Qe.e Qe.z []) (st':=⟨8,[(2,.own 0 9 0 0)],[.flat false 9 141 0 (vec Qe.e Qe.z [])]⟩) (by kernel_rfl) (by kernel_rfl) ?_
  exact Qf9 hf hX (av:=.own 0 9 0 0) (by kernel_rfl) [0] (Qal (by kernel_rfl)) (by decide) (by rw [h0];rfl) (by kernel_rfl) (ac (Xa Qe.nl) an) (.own _ _ _ _)
 | false=>
  refine go hT 5 [0] (k':=Qv (Tryz.f73.body.getD .skip) [1,1,0,0] []) (st':=⟨8,[(0,.d (.sl tg xs.length (vec Qe.e Qe.z xs)))],[]⟩) (by kernel_rfl) ?_
  refine Qna (e:=141) (s:=9) (dst:=some 5) (k':=Qv (Tryz.f73.body.getD .skip) [1,1,0,1] []) hT [0,5] (vec Qe.e Qe.z []) (by kernel_rfl) (st':=⟨8,[(0,.d (.sl tg xs.length (vec Qe.e Qe.z xs))),(5,.own 0 9 0 0)],[.flat false 9 141 0 (vec Qe.e Qe.z [])]⟩) (by kernel_rfl) ?_
  refine go hT 1 [5,6] (k':=Qv (Tryz.f73.body.getD .skip) [1,1,0,2] []) (st':=⟨8,[(5,.own 0 9 0 ([]:List Qe).length),(6,.d (.sl tg xs.length (vec Qe.e Qe.z xs)))],[.flat false 9 141 ([]:List Qe).length (vec Qe.e Qe.z [])]⟩) (by kernel_rfl) ?_
  refine Qiu (id:=0) (kk:=9) (by':=88) (t:=27) (e:=141) (z:=[.int .i64 0,.int .i64 0,.int .i64 0,.slice none 0 0,.int .i64 0,.int .i64 0,.int .i64 0,.int .i64 0,.bool false]) (dst:=some 7) (k':=Qv (Tryz.f73.body.getD .skip) [1,1,0,3] []) (x:=.d (.sl tg xs.length (vec Qe.e Qe.z xs))) hT Qe.e Qe.z [] xs [7] (by kernel_rfl) (by kernel_rfl) (.sl fun _ _=>rfl) (by kernel_rfl) (by kernel_rfl) (by kernel_rfl) (by kernel_rfl) (by simpa using hb) (by simp;omega) (st':=⟨8,[(7,.own 1 9 0 ([] ++ xs).length)],[.gone,.flat false 9 141 ([] ++ xs).length (vec Qe.e Qe.z ([] ++ xs))]⟩) (by kernel_rfl) ?_
  refine go hT 2 [2] (k':=Qv (Tryz.f73.body.getD .skip) [1,1,1] []) (st':=⟨8,[(2,.own 1 9 0 xs.length)],[.gone,.flat false 9 141 xs.length (vec Qe.e Qe.z xs)]⟩) (by kernel_rfl) ?_
  exact Qf9 hf hX (av:=.own 1 9 0 xs.length) (by kernel_rfl) [1] (Qal (by kernel_rfl)) (by decide) (by rw [h0];rfl) (by kernel_rfl) (ac (Xa Qe.nl) an) (.own _ _ _ _)
theorem Wma {tg:Bool} (xs:List Qg) (hb:xs.length * 32<=140737488355328):
  Xt Tryz.prog 74 [] [.d (.sl tg xs.length (vec Qg.e Qg.z xs))] [.flat false 4 131 xs.length (vec Qg.e Qg.z xs)] (.own 0 4 0 xs.length):=by
 refine Wx Tryz.func74 rfl (nt:=8) rfl (lb rfl) fun X hP h0 hX=>?_
 have hT:Qw X.P TI:=hP▸Qjw
 have hf:X.P.funcs[74]? = some Tryz.f74:=hP▸Tryz.func74
 refine go hT 8 [0,3] (k':=Qv (Tryz.f74.body.getD .skip) [1,0,0,1] []) (st':=⟨8,[(0,.d (.sl tg xs.length (vec Qg.e Qg.z xs))),(3,.d (.sl tg xs.length (vec Qg.e Qg.z xs)))],[]⟩) (by kernel_rfl) ?_
 refine Qnb (eq:=true) (n:=xs.length) (dst:=some 4) (k':=Qv (Tryz.f74.body.getD .skip) [1,0,0,2] []) hT [0,4] (st':=fun b=>⟨8,[(0,.d (.sl tg xs.length (vec Qg.e Qg.z xs))),(4,.d (.v (.bool b)))],[]⟩) (by kernel_rfl) (fun b=>by kernel_rfl) ?_
 intro b hbn
 cases b with
 | true=>
  have hx:xs=[]:=List.length_eq_zero_iff.1 (hbn rfl)
  subst hx
  refine go hT 6 [2] (k':=Qv (Tryz.f74.body.getD .skip) [1,0,1,0,1] []) (st':=⟨8,[(2,.d (.v (.slice none 0 0)))],[]⟩) (by kernel_rfl) ?_
  refine Qd1 [2] 2 4 131 (vec Qg.e Qg.z []) (st':=⟨8,[(2,.own 0 4 0 0)],[.flat false 4 131 0 (vec Qg.e Qg.z [])]⟩) (by kernel_rfl) (by kernel_rfl) ?_
  exact Qf9 hf hX (av:=.own 0 4 0 0) (by kernel_rfl) [0] (Qal (by kernel_rfl)) (by decide) (by rw [h0];rfl) (by kernel_rfl) (ac (Xa Qg.nl) an) (.own _ _ _ _)
 | false=>
  refine go hT 5 [0] (k':=Qv (Tryz.f74.body.getD .skip) [1,1,0,0] []) (st':=⟨8,[(0,.d (.sl tg xs.length (vec Qg.e Qg.z xs)))],[]⟩) (by kernel_rfl) ?_
  refine Qna (e:=131) (s:=4) (dst:=some 5) (k':=Qv (Tryz.f74.body.getD .skip) [1,1,0,1] []) hT [0,5] (vec Qg.e Qg.z []) (by kernel_rfl) (st':=⟨8,[(0,.d (.sl tg xs.length (vec Qg.e Qg.z xs))),(5,.own 0 4 0 0)],[.flat false 4 131 0 (vec Qg.e Qg.z [])]⟩) (by kernel_rfl) ?_
  refine go hT 1 [5,6] (k':=Qv (Tryz.f74.body.getD .skip) [1,1,0,2] []) (st':=⟨8,[(5,.own 0 4 0 ([]:List Qg).length),(6,.d (.sl tg xs.length (vec Qg.e Qg.z xs)))],[.flat false 4 131 ([]:List Qg).length (vec Qg.e Qg.z [])]⟩) (by kernel_rfl) ?_
  refine Qiu (id:=0) (kk:=4) (by':=32) (t:=28) (e:=131) (z:=[.int .i64 0,.int .i64 0,.int .i64 0,.bool false]) (dst:=some 7) (k':=Qv (Tryz.f74.body.getD .skip) [1,1,0,3] []) (x:=.d (.sl tg xs.length (vec Qg.e Qg.z xs))) hT Qg.e Qg.z [] xs [7] (by kernel_rfl) (by kernel_rfl) (.sl fun _ _=>rfl) (by kernel_rfl) (by kernel_rfl) (by kernel_rfl) (by kernel_rfl) (by simpa using hb) (by simp;omega) (st':=⟨8,[(7,.own 1 4 0 ([] ++ xs).length)],[.gone,.flat false 4 131 ([] ++ xs).length (vec Qg.e Qg.z ([] ++ xs))]⟩) (by kernel_rfl) ?_
  refine go hT 2 [2] (k':=Qv (Tryz.f74.body.getD .skip) [1,1,1] []) (st':=⟨8,[(2,.own 1 4 0 xs.length)],[.gone,.flat false 4 131 xs.length (vec Qg.e Qg.z xs)]⟩) (by kernel_rfl) ?_
  exact Qf9 hf hX (av:=.own 1 4 0 xs.length) (by kernel_rfl) [1] (Qal (by kernel_rfl)) (by decide) (by rw [h0];rfl) (by kernel_rfl) (ac (Xa Qg.nl) an) (.own _ _ _ _)
open Go.Sort in
theorem Wpd {g:FuncId} (eg:Sy.Enters Tryz.prog g) (cf:Qa->Qa->Int) (hO:SWO (ltOf cf))
  (hs:∀ x y,Xt Tryz.prog g [] [.d (.agg (Qa.e x)),.d (.agg (Qa.e y))] [] (.d (.v (.int .i64 (cf x y))))) (xs:List Qa) (hb:xs.length * 16<=140737488355328):
  Xt Tryz.prog 80 [.flat false 2 97 xs.length (vec Qa.e Qa.z xs)] [.own 0 2 0 xs.length,.d (.fn g [])] [.flat false 2 97 xs.length (vec Qa.e Qa.z (Ja Qa.z cf xs))] (.Ql []):=
 Quw Tryz.Wla Qa.z 2 Tryz.isAgg97 Tryz.sizeOf97 (fun x:Qa=>[.int .i64 x.Key,.int .i64 x.Val]) (fun _=>rfl) (fun x v hv=>by
  simp only [List.mem_cons,List.not_mem_nil,or_false] at hv
  rcases hv with rfl | rfl<;>rfl) Qa.e (fun _=>rfl) cf hO g eg (Qv8 (fun x v hv=>by
  simp only [List.mem_cons,List.not_mem_nil,or_false] at hv
  rcases hv with rfl | rfl<;>rfl) (fun _=>rfl) hs) (by omega)
open Go.Sort in
theorem Wm2 {g:FuncId} (eg:Sy.Enters Tryz.prog g) (cf:Qb->Qb->Int) (hO:SWO (ltOf cf))
  (hs:∀ x y,Xt Tryz.prog g [] [.d (.agg (Qb.e x)),.d (.agg (Qb.e y))] [] (.d (.v (.int .i64 (cf x y))))) (xs:List Qb) (hb:xs.length * 16<=140737488355328):
  Xt Tryz.prog 144 [.flat false 2 24 xs.length (vec Qb.e Qb.z xs)] [.own 0 2 0 xs.length,.d (.fn g [])] [.flat false 2 24 xs.length (vec Qb.e Qb.z (Ja Qb.z cf xs))] (.Ql []):=
 Quw Tryz.Wig Qb.z 2 Tryz.isAgg24 Tryz.sizeOf24 (fun x:Qb=>[.int .i64 x.Lo,.int .i64 x.Hi]) (fun _=>rfl) (fun x v hv=>by
  simp only [List.mem_cons,List.not_mem_nil,or_false] at hv
  rcases hv with rfl | rfl<;>rfl) Qb.e (fun _=>rfl) cf hO g eg (Qv8 (fun x v hv=>by
  simp only [List.mem_cons,List.not_mem_nil,or_false] at hv
  rcases hv with rfl | rfl<;>rfl) (fun _=>rfl) hs) (by omega)
def Wqe:List Item->Code
 | .code (.rangeFunc _ _ a _) :: _=>a
 | _=>.skip
def Wpu:List Item->Code
 | .code (.rangeFunc _ _ _ b) :: _=>b
 | _=>.skip
noncomputable def Qdk:Code:=Wqe (Qv (Tryz.f183.body.getD .skip) [1,0,1,0] [])
noncomputable def Qcd:Code:=Wpu (Qv (Tryz.f183.body.getD .skip) [1,0,1,0] [])
def Wpv:List Item->Code
 | _ :: _ :: .code c :: _=>c
 | _=>.skip
noncomputable def Wm5:Code:=Wpv (Qv (Tryz.f183.body.getD .skip) [1,0,1,0] [])
theorem Wk7 (l:Nat) (xs:List Qb) (x:Qb) (hb:(xs.length+1) * 16<=140737488355328):
  Qp2 Tryz.prog l [.loop l .ready 183 13 [2] [.ptr 1 0 0 0] #[7] Qdk Qcd,.box 68 [.own 2 2 0 xs.length],.flat false 2 24 xs.length (vec Qb.e Qb.z xs)] (.d (.agg (Qb.e x)))
   [.loop l .ready 183 13 [2] [.ptr 1 0 0 0] #[7] Qdk Qcd,.box 68 [.own 3 2 0 (xs ++ [x]).length],.gone,.flat false 2 24 (xs ++ [x]).length (vec Qb.e Qb.z (xs ++ [x]))]:=by
 refine Wet (by decide) fun X hP h0 hX=>?_
 have hT:Qw X.P TI:=hP▸Qjw
 refine go hT 4 [2,5] (k':=[.beginRound,.code Qcd]) (st':=⟨13,[(2,.ptr 1 0 0 0),(5,.ptr 3 0 0 0)],[.loop l .ready 183 13 [2] [.ptr 1 0 0 0] #[7] Qdk Qcd,.box 68 [.own 2 2 0 xs.length],.flat false 2 24 xs.length (vec Qb.e Qb.z xs),.box 24 [.i x.Lo,.i x.Hi]]⟩) (by kernel_rfl) ?_
 refine Qx1 (st':=⟨13,[(2,.ptr 1 0 0 0),(5,.ptr 3 0 0 0)],[.loop l .busy 183 13 [2] [.ptr 1 0 0 0] #[7] Qdk Qcd,.box 68 [.own 2 2 0 xs.length],.flat false 2 24 xs.length (vec Qb.e Qb.z xs),.box 24 [.i x.Lo,.i x.Hi]]⟩) 0 hX rfl rfl ?_
 refine go hT 5 [2,8,10] (k':=Qv Qcd [0,3] []) (st':=⟨13,[(2,.ptr 1 0 0 0),(8,.own 2 2 0 xs.length),(10,.own 4 2 0 1)],[.loop l .busy 183 13 [2] [.ptr 1 0 0 0] #[7] Qdk Qcd,.box 68 [.own 2 2 0 xs.length],.flat false 2 24 xs.length (vec Qb.e Qb.z xs),.box 24 [.i x.Lo,.i x.Hi],.flat false 2 24 1 (fun j=>[Qb.e x].getD j [])]⟩) (by kernel_rfl) ?_
 refine Qeq (id:=2) (kk:=2) (by':=16) (t:=68) (e:=24) (z:=[.int .i64 0,.int .i64 0]) (dst:=some 11) (id2:=4) (e2:=24) (fz:=false) (k':=Qv Qcd [0,4] []) hT Qb.e Qb.z xs x [2,11] (by kernel_rfl) (by kernel_rfl) (by kernel_rfl) (by kernel_rfl) (by kernel_rfl) (by kernel_rfl) (by kernel_rfl) hb (by omega)
  (st':=⟨13,[(2,.ptr 1 0 0 0),(11,.own 5 2 0 (xs ++ [x]).length)],[.loop l .busy 183 13 [2] [.ptr 1 0 0 0] #[7] Qdk Qcd,.box 68 [.own 2 2 0 xs.length],.gone,.box 24 [.i x.Lo,.i x.Hi],.flat false 2 24 1 (fun j=>[Qb.e x].getD j []),.flat false 2 24 (xs ++ [x]).length (vec Qb.e Qb.z (xs ++ [x]))]⟩) (by kernel_rfl) ?_
 refine go hT 3 [] (k':=[]) (st':=⟨13,[],[.loop l .busy 183 13 [2] [.ptr 1 0 0 0] #[7] Qdk Qcd,.box 68 [.own 5 2 0 (xs ++ [x]).length],.gone,.box 24 [.i x.Lo,.i x.Hi],.flat false 2 24 1 (fun j=>[Qb.e x].getD j []),.flat false 2 24 (xs ++ [x]).length (vec Qb.e Qb.z (xs ++ [x]))]⟩) (by kernel_rfl) ?_
 refine Qtn [] [0,1,2,5] (st':=⟨13,[],[.loop l .busy 183 13 [2] [.ptr 1 0 0 0] #[7] Qdk Qcd,.box 68 [.own 3 2 0 (xs ++ [x]).length],.gone,.flat false 2 24 (xs ++ [x]).length (vec Qb.e Qb.z (xs ++ [x]))]⟩) (by kernel_rfl) (by kernel_rfl) rfl (by decide) (by rw [h0];rfl) ?_
 exact Wap 0 rfl rfl (ac (.loop (.cons (.ptr _ _ _ _) .nil)) (ac (.box (.cons (.own _ _ _ _) .nil)) (ac .gone (ac (Xa Qb.nl) an))))
theorem Wis {tg:Bool} (l:Nat) (xs:List Qb) (hb:xs.length * 16<=140737488355328):
  Xt Tryz.prog 145 [.loop l .ready 183 13 [2] [.ptr 1 0 0 0] #[7] Qdk Qcd,.box 68 [.own 2 2 0 0],.flat false 2 24 0 (vec Qb.e Qb.z [])] [.d (.v (.func (.yield l) #[] #[])),.d (.rop false 1 (fun _=>[.sl tg xs.length (vec Qb.e Qb.z  xs)]) 0 0)]
   [.loop l .ready 183 13 [2] [.ptr 1 0 0 0] #[7] Qdk Qcd,.box 68 [.own 3 2 0 xs.length],.gone,.flat false 2 24 xs.length (vec Qb.e Qb.z xs)] (.Ql []):=by
 refine Wx Tryz.func145 rfl (nt:=16) rfl (lb rfl) fun X hP h0 hX=>?_
 have hT:Qw X.P TI:=hP▸Qjw
 have hf:X.P.funcs[145]? = some Tryz.f145:=hP▸Tryz.func145
 refine go hT 8 [0,5,6,7] (k':=Qv (Tryz.f145.body.getD .skip) [1,0,0] []) (st':=⟨16,[(0,.d (.v (.func (.yield l) #[] #[]))),(5,.d (.sl tg xs.length (vec Qb.e Qb.z xs))),(6,.d (.v (.int .i64 (xs.length:Int)))),(7,.d (.v (.int .i64 0)))],[.loop l .ready 183 13 [2] [.ptr 1 0 0 0] #[7] Qdk Qcd,.box 68 [.own 2 2 0 0],.flat false 2 24 0 (vec Qb.e Qb.z [])]⟩) (by kernel_rfl) ?_
 refine Wfb 2 (r:=.flat false 2 24 0 (vec Qb.e Qb.z [])) rfl rfl (st':=⟨16,[(0,.d (.v (.func (.yield l) #[] #[]))),(5,.d (.sl tg xs.length (vec Qb.e Qb.z xs))),(6,.d (.v (.int .i64 (xs.length:Int)))),(7,.d (.v (.int .i64 0)))],[.loop l .ready 183 13 [2] [.ptr 1 0 0 0] #[7] Qdk Qcd,.box 68 [.own 3 2 0 0],.gone,.flat false 2 24 0 (vec Qb.e Qb.z [])]⟩) (by kernel_rfl) (by kernel_rfl) rfl ?_
 have L:∀ m i:Nat,i+m=xs.length->AK X 145 (Qv (Tryz.f145.body.getD .skip) [1,0,0] []) (Ym X [.loop l .ready 183 13 [2] [.ptr 1 0 0 0] #[7] Qdk Qcd,.box 68 [.own 3 2 0 xs.length],.gone,.flat false 2 24 xs.length (vec Qb.e Qb.z xs)] (.Ql [])) ⟨16,[(0,.d (.v (.func (.yield l) #[] #[]))),(5,.d (.sl tg xs.length (vec Qb.e Qb.z xs))),(6,.d (.v (.int .i64 (xs.length:Int)))),(7,.d (.v (.int .i64 (i:Int))))],[.loop l .ready 183 13 [2] [.ptr 1 0 0 0] #[7] Qdk Qcd,.box 68 [.own 3 2 0 (xs.take i).length],.gone,.flat false 2 24 (xs.take i).length (vec Qb.e Qb.z (xs.take i))]⟩:=by
  intro m
  induction m with
  | zero=>
   intro i hi
   refine go hT 5 [0,5,6,7,8] (k':=Qv (Tryz.f145.body.getD .skip) [1,0,0,1,0] []) (st':=⟨16,[(0,.d (.v (.func (.yield l) #[] #[]))),(5,.d (.sl tg xs.length (vec Qb.e Qb.z xs))),(6,.d (.v (.int .i64 (xs.length:Int)))),(7,.d (.v (.int .i64 (i:Int)))),(8,.d (.v (.bool (decide ((i:Int) < (xs.length:Int))))))],[.loop l .ready 183 13 [2] [.ptr 1 0 0 0] #[7] Qdk Qcd,.box 68 [.own 3 2 0 (xs.take i).length],.gone,.flat false 2 24 (xs.take i).length (vec Qb.e Qb.z (xs.take i))]⟩) (by kernel_rfl) ?_
   rw [decide_eq_false (show ¬ (i:Int) < (xs.length:Int) by omega)]
   have hx:xs.take i=xs:=List.take_of_length_le (by omega)
   rw [hx]
   refine go hT 2 [] (k':=[]) (st':=⟨16,[],[.loop l .ready 183 13 [2] [.ptr 1 0 0 0] #[7] Qdk Qcd,.box 68 [.own 3 2 0 xs.length],.gone,.flat false 2 24 xs.length (vec Qb.e Qb.z xs)]⟩) (by kernel_rfl) ?_
   exact Qtp hf hX (av:=.Ql []) (by kernel_rfl) [0,1,2,3] (Qal (by kernel_rfl)) (by decide) (by rw [h0];rfl) (by kernel_rfl)
    (ac (.loop (.cons (.ptr _ _ _ _) .nil)) (ac (.box (.cons (.own _ _ _ _) .nil)) (ac .gone (ac (Xa Qb.nl) an)))) (.Ql .nil)
  | succ m ih=>
   intro i hi
   have hlen:(xs.take i).length=i:=by rw [List.length_take];omega
   refine go hT 5 [0,5,6,7,8] (k':=Qv (Tryz.f145.body.getD .skip) [1,0,0,1,0] []) (st':=⟨16,[(0,.d (.v (.func (.yield l) #[] #[]))),(5,.d (.sl tg xs.length (vec Qb.e Qb.z xs))),(6,.d (.v (.int .i64 (xs.length:Int)))),(7,.d (.v (.int .i64 (i:Int)))),(8,.d (.v (.bool (decide ((i:Int) < (xs.length:Int))))))],[.loop l .ready 183 13 [2] [.ptr 1 0 0 0] #[7] Qdk Qcd,.box 68 [.own 3 2 0 (xs.take i).length],.gone,.flat false 2 24 (xs.take i).length (vec Qb.e Qb.z (xs.take i))]⟩) (by kernel_rfl) ?_
   rw [decide_eq_true (show (i:Int) < (xs.length:Int) by omega)]
   refine go hT 6 [0,5,6,7] (k':=Qv (Tryz.f145.body.getD .skip) [1,0,0,1,1,0,0,0,0] []) (st':=⟨16,[(0,.d (.v (.func (.yield l) #[] #[]))),(5,.d (.sl tg xs.length (vec Qb.e Qb.z xs))),(6,.d (.v (.int .i64 (xs.length:Int)))),(7,.d (.v (.int .i64 (i:Int))))],[.loop l .ready 183 13 [2] [.ptr 1 0 0 0] #[7] Qdk Qcd,.box 68 [.own 3 2 0 (xs.take i).length],.gone,.flat false 2 24 (xs.take i).length (vec Qb.e Qb.z (xs.take i))]⟩) (by kernel_rfl) ?_
   refine Qh2 hT [0,5,6,7,9] (i:=(i:Int)) (n:=(xs.length:Int)) (by omega) (by omega) (k':=Qv (Tryz.f145.body.getD .skip) [1,0,0,1,1,0,0,0,1] []) (st':=⟨16,[(0,.d (.v (.func (.yield l) #[] #[]))),(5,.d (.sl tg xs.length (vec Qb.e Qb.z xs))),(6,.d (.v (.int .i64 (xs.length:Int)))),(7,.d (.v (.int .i64 (i:Int)))),(9,.d (.rop tg xs.length (vec Qb.e Qb.z  xs) (i:Int).toNat 0))],[.loop l .ready 183 13 [2] [.ptr 1 0 0 0] #[7] Qdk Qcd,.box 68 [.own 3 2 0 (xs.take i).length],.gone,.flat false 2 24 (xs.take i).length (vec Qb.e Qb.z (xs.take i))]⟩) (by kernel_rfl) ?_
   refine go hT 8 [0,5,6,7,11,12] (k':=Qv (Tryz.f145.body.getD .skip) [1,0,0,1,1,0,0,1,0,2] []) (st':=⟨16,[(0,.d (.v (.func (.yield l) #[] #[]))),(5,.d (.sl tg xs.length (vec Qb.e Qb.z xs))),(6,.d (.v (.int .i64 (xs.length:Int)))),(7,.d (.v (.int .i64 (i:Int)))),(11,.d (.v (.func (.yield l) #[] #[]))),(12,.d (.agg (Qb.e (xs.getD (i:Int).toNat Qb.z))))],[.loop l .ready 183 13 [2] [.ptr 1 0 0 0] #[7] Qdk Qcd,.box 68 [.own 3 2 0 (xs.take i).length],.gone,.flat false 2 24 (xs.take i).length (vec Qb.e Qb.z (xs.take i)),.box 24 [.i ((xs.getD (i:Int).toNat Qb.z).Lo),.i ((xs.getD (i:Int).toNat Qb.z).Hi)]]⟩) (by kernel_rfl) ?_
   refine Wi7 (av:=.d (.agg (Qb.e (xs.getD (i:Int).toNat Qb.z)))) (dst:=some 13) (k':=Qv (Tryz.f145.body.getD .skip) [1,0,0,1,1,0,0,1,0,3] []) [0,5,6,7,13] [0,1,3] hP (Wk7 l (xs.take i) (xs.getD (i:Int).toNat Qb.z) (by rw [hlen];omega)) (by kernel_rfl) (Qsr rfl rfl rfl (by decide)) (.cons (Qk _) .nil)
    (st':=⟨16,[(0,.d (.v (.func (.yield l) #[] #[]))),(5,.d (.sl tg xs.length (vec Qb.e Qb.z xs))),(6,.d (.v (.int .i64 (xs.length:Int)))),(7,.d (.v (.int .i64 (i:Int)))),(13,.d (.v (.bool true)))],[.loop l .ready 183 13 [2] [.ptr 1 0 0 0] #[7] Qdk Qcd,.box 68 [.own 5 2 0 (xs.take i ++ [(xs.getD (i:Int).toNat Qb.z)]).length],.gone,.gone,.box 24 [.i ((xs.getD (i:Int).toNat Qb.z).Lo),.i ((xs.getD (i:Int).toNat Qb.z).Hi)],.flat false 2 24 (xs.take i ++ [(xs.getD (i:Int).toNat Qb.z)]).length (vec Qb.e Qb.z (xs.take i ++ [(xs.getD (i:Int).toNat Qb.z)]))]⟩) (by kernel_rfl) ?_
   refine go hT 10 [0,5,6,7] (k':=Qv (Tryz.f145.body.getD .skip) [1,0,0] []) (st':=⟨16,[(0,.d (.v (.func (.yield l) #[] #[]))),(5,.d (.sl tg xs.length (vec Qb.e Qb.z xs))),(6,.d (.v (.int .i64 (xs.length:Int)))),(7,.d (.v (.int .i64 (IntKind.wrap .i64 ((i:Int)+1)))))],[.loop l .ready 183 13 [2] [.ptr 1 0 0 0] #[7] Qdk Qcd,.box 68 [.own 5 2 0 (xs.take i ++ [(xs.getD (i:Int).toNat Qb.z)]).length],.gone,.gone,.box 24 [.i ((xs.getD (i:Int).toNat Qb.z).Lo),.i ((xs.getD (i:Int).toNat Qb.z).Hi)],.flat false 2 24 (xs.take i ++ [(xs.getD (i:Int).toNat Qb.z)]).length (vec Qb.e Qb.z (xs.take i ++ [(xs.getD (i:Int).toNat Qb.z)]))]⟩) (by kernel_rfl) ?_
   have hw:IntKind.wrap .i64 ((i:Int)+1)=((i+1:Nat):Int):=by simp [IntKind.wrap,IntKind.bits,IntKind.signed];omega
   have ht:xs.take i ++ [(xs.getD (i:Int).toNat Qb.z)]=xs.take (i+1):=by
    rw [List.take_add_one]
    simp [show i < xs.length by omega]
   rw [hw,ht]
   refine Qtn [0,5,6,7] [0,1,2,5] (st':=⟨16,[(0,.d (.v (.func (.yield l) #[] #[]))),(5,.d (.sl tg xs.length (vec Qb.e Qb.z xs))),(6,.d (.v (.int .i64 (xs.length:Int)))),(7,.d (.v (.int .i64 ((i+1:Nat):Int))))],[.loop l .ready 183 13 [2] [.ptr 1 0 0 0] #[7] Qdk Qcd,.box 68 [.own 3 2 0 (xs.take (i+1)).length],.gone,.flat false 2 24 (xs.take (i+1)).length (vec Qb.e Qb.z (xs.take (i+1)))]⟩) (by kernel_rfl) (by kernel_rfl) rfl (by decide) (by rw [h0];rfl) ?_
   exact ih (i+1) (by omega)
 exact L xs.length 0 (by omega)
theorem Qx9 {tg:Bool} (xs:List Qb) (hb:xs.length * 16<=140737488355328):
  Xt Tryz.prog 183 [] [.d (.v (.slice none 0 0)),.d (.fn 145 [.rop false 1 (fun _=>[.sl tg xs.length (vec Qb.e Qb.z xs)]) 0 0])] [.flat false 2 24 xs.length (vec Qb.e Qb.z  xs)] (.own 0 2 0 xs.length):=by
 refine Wx Tryz.func183 rfl (nt:=13) rfl (lb rfl) fun X hP h0 hX=>?_
 have hT:Qw X.P TI:=hP▸Qjw
 have hf:X.P.funcs[183]? = some Tryz.f183:=hP▸Tryz.func183
 refine Qd1 [0,1] 0 2 24 (vec Qb.e Qb.z []) (st':=⟨13,[(0,.own 0 2 0 0),(1,.d (.fn 145 [.rop false 1 (fun _=>[.sl tg xs.length (vec Qb.e Qb.z xs)]) 0 0]))],[.flat false 2 24 0 (vec Qb.e Qb.z [])]⟩) (by kernel_rfl) (by kernel_rfl) ?_
 refine go hT 11 [2,6] (k':=Qv (Tryz.f183.body.getD .skip) [1,0,1,0] []) (st':=⟨13,[(2,.ptr 1 0 0 0),(6,.d (.fn 145 [.rop false 1 (fun _=>[.sl tg xs.length (vec Qb.e Qb.z xs)]) 0 0]))],[.flat false 2 24 0 (vec Qb.e Qb.z []),.box 68 [.own 0 2 0 0]]⟩) (by kernel_rfl) ?_
 refine Qtn [2,6] [1,0] (st':=⟨13,[(2,.ptr 0 0 0 0),(6,.d (.fn 145 [.rop false 1 (fun _=>[.sl tg xs.length (vec Qb.e Qb.z xs)]) 0 0]))],[.box 68 [.own 1 2 0 0],.flat false 2 24 0 (vec Qb.e Qb.z [])]⟩) (by kernel_rfl) (by kernel_rfl) rfl (by decide) (by rw [h0];rfl) ?_
 refine Qx3 (P:=Tryz.prog) (f:=183) (g:=145) (fop:=.tmp 6) (p:=7) (asg:=Qdk) (body:=Qcd) (k:=[.inBlock 0,.code (Wm5)]) (caps:=[.rop false 1 (fun _=>[.sl tg xs.length (vec Qb.e Qb.z xs)]) 0 0]) (ret:=.Ql []) [2] [.ptr 0 0 0 0] [.ptr 0 0 0 0] [3,0,1]
  (fun l=>[.loop l .ready 183 13 [2] [.ptr 1 0 0 0] #[7] Qdk Qcd,.box 68 [.own 2 2 0 0],.flat false 2 24 0 (vec Qb.e Qb.z [])]) (fun l=>[.loop l .ready 183 13 [2] [.ptr 1 0 0 0] #[7] Qdk Qcd,.box 68 [.own 3 2 0 xs.length],.gone,.flat false 2 24 xs.length (vec Qb.e Qb.z  xs)]) (fun l=>[.d (.v (.func (.yield l) #[] #[])),.d (.rop false 1 (fun _=>[.sl tg xs.length (vec Qb.e Qb.z xs)]) 0 0)])
  hP hX (by kernel_rfl) Wc3 (by kernel_rfl) (fun l=>Wis l xs hb) (fun D=>Qsr rfl rfl rfl (by decide)) (fun D=>.cons (Qk _) (.cons (Qk _) .nil)) (fun D=>by kernel_rfl) fun D=>?_
 have hT2:Qw (X.mark D).P TI:=hT
 refine go hT2 6 [4] (k':=[.code .ret]) (st':=⟨13,[(4,.own 4 2 0 xs.length)],[.box 68 [.own 4 2 0 xs.length],.gone,.dfr D,.gone,.flat false 2 24 xs.length (vec Qb.e Qb.z  xs)]⟩) (by kernel_rfl) ?_
 have fin:=Wl0 (X:=X.mark D) (f:=183) (k:=[]) (ret:=.own 0 2 0 xs.length) (Qr:=[.flat false 2 24 xs.length (vec Qb.e Qb.z xs)]) (st:=⟨13,[(4,.own 4 2 0 xs.length)],[.box 68 [.own 4 2 0 xs.length],.gone,.dfr D,.gone,.flat false 2 24 xs.length (vec Qb.e Qb.z xs)]⟩) 2 hf ⟨rfl,rfl⟩ (by kernel_rfl) (av:=.own 4 2 0 xs.length) (by kernel_rfl) [4] (by decide) (Qal (by kernel_rfl)) (by decide) (by have h1:(X.mark D).μ0.length=0:=h0;rw [h1];rfl) (by kernel_rfl) (ac (Xa Qb.nl) an) (.own _ _ _ _)
 rw [Weh D hX] at fin
 exact fin
theorem Wci {tg:Bool} (xs:List Qb) (hb:xs.length * 16<=140737488355328):
  Xt Tryz.prog 143 [] [.d (.fn 145 [.rop false 1 (fun _=>[.sl tg xs.length (vec Qb.e Qb.z xs)]) 0 0])] [.flat false 2 24 xs.length (vec Qb.e Qb.z  xs)] (.own 0 2 0 xs.length):=by
 refine Wx Tryz.func143 rfl (nt:=5) rfl (lb rfl) fun X hP h0 hX=>?_
 have hT:Qw X.P TI:=hP▸Qjw
 have hf:X.P.funcs[143]? = some Tryz.f143:=hP▸Tryz.func143
 refine go hT 7 [3] (k':=Qv (Tryz.f143.body.getD .skip) [1,0,1] []) (st':=⟨5,[(3,.d (.fn 145 [.rop false 1 (fun _=>[.sl tg xs.length (vec Qb.e Qb.z xs)]) 0 0]))],[]⟩) (by kernel_rfl) ?_
 refine Zd (Xx:=[.d (.v (.slice none 0 0)),.d (.fn 145 [.rop false 1 (fun _=>[.sl tg xs.length (vec Qb.e Qb.z xs)]) 0 0])]) (dst:=some 4) (k':=Qv (Tryz.f143.body.getD .skip) [1,0,2] []) [4] [] hP Wdd (Qx9 (tg:=tg) xs hb) (by kernel_rfl) (Qao _) (.cons (Qk _) (.cons (Qk _) .nil))
  (st':=⟨5,[(4,.own 0 2 0 xs.length)],[.flat false 2 24 xs.length (vec Qb.e Qb.z  xs)]⟩) (by kernel_rfl) ?_
 refine go hT 2 [2] (k':=Qv (Tryz.f143.body.getD .skip) [1,1] []) (st':=⟨5,[(2,.own 0 2 0 xs.length)],[.flat false 2 24 xs.length (vec Qb.e Qb.z  xs)]⟩) (by kernel_rfl) ?_
 exact Qf9 hf hX (av:=.own 0 2 0 xs.length) (by kernel_rfl) [0] (Qal (by kernel_rfl)) (by decide) (by rw [h0];rfl) (by kernel_rfl) (ac (Xa Qb.nl) an) (.own _ _ _ _)
open Go.Sort in
theorem Qvn {tg:Bool} {g:FuncId} (eg:Sy.Enters Tryz.prog g) (cf:Qb->Qb->Int) (hO:SWO (ltOf cf))
  (hs:∀ x y,Xt Tryz.prog g [] [.d (.agg (Qb.e x)),.d (.agg (Qb.e y))] [] (.d (.v (.int .i64 (cf x y))))) (xs:List Qb) (hb:xs.length * 16<=140737488355328):
  Xt Tryz.prog 103 [] [.d (.fn 145 [.rop false 1 (fun _=>[.sl tg xs.length (vec Qb.e Qb.z xs)]) 0 0]),.d (.fn g [])] [.flat false 2 24 xs.length (vec Qb.e Qb.z (Ja Qb.z cf xs))] (.own 0 2 0 xs.length):=by
 refine Wx Tryz.func103 rfl (nt:=12) rfl (lb rfl) fun X hP h0 hX=>?_
 have hT:Qw X.P TI:=hP▸Qjw
 have hf:X.P.funcs[103]? = some Tryz.f103:=hP▸Tryz.func103
 refine go hT 7 [1,6] (k':=Qv (Tryz.f103.body.getD .skip) [1,0,1] []) (st':=⟨12,[(1,.d (.fn g [])),(6,.d (.fn 145 [.rop false 1 (fun _=>[.sl tg xs.length (vec Qb.e Qb.z xs)]) 0 0]))],[]⟩) (by kernel_rfl) ?_
 refine Zd (Xx:=[.d (.fn 145 [.rop false 1 (fun _=>[.sl tg xs.length (vec Qb.e Qb.z xs)]) 0 0])]) (dst:=some 7) (k':=Qv (Tryz.f103.body.getD .skip) [1,0,2] []) [1,7] [] hP Wc1 (Wci (tg:=tg) xs hb) (by kernel_rfl) (Qao _) (.cons (Qk _) .nil)
  (st':=⟨12,[(1,.d (.fn g [])),(7,.own 0 2 0 xs.length)],[.flat false 2 24 xs.length (vec Qb.e Qb.z xs)]⟩) (by kernel_rfl) ?_
 refine go hT 6 [5,8,9] (k':=Qv (Tryz.f103.body.getD .skip) [1,1,0,2] []) (st':=⟨12,[(5,.own 0 2 0 xs.length),(8,.own 0 2 0 xs.length),(9,.d (.fn g []))],[.flat false 2 24 xs.length (vec Qb.e Qb.z xs)]⟩) (by kernel_rfl) ?_
 refine Zd (Xx:=[.own 0 2 0 xs.length,.d (.fn g [])]) (dst:=some 10) (k':=Qv (Tryz.f103.body.getD .skip) [1,1,0,3] []) [5] [0] hP Wc2 (Wm2 eg cf hO hs xs hb) (by kernel_rfl) (Qel rfl rfl) (.cons (.same (.own 0 2 0 xs.length)) (.cons (Qk _) .nil))
  (st':=⟨12,[(5,.own 0 2 0 xs.length)],[.flat false 2 24 xs.length (vec Qb.e Qb.z (Ja Qb.z cf xs))]⟩) (by kernel_rfl) ?_
 refine go hT 6 [4] (k':=Qv (Tryz.f103.body.getD .skip) [1,1,1,1] []) (st':=⟨12,[(4,.own 0 2 0 xs.length)],[.flat false 2 24 xs.length (vec Qb.e Qb.z (Ja Qb.z cf xs))]⟩) (by kernel_rfl) ?_
 exact Qf9 hf hX (av:=.own 0 2 0 xs.length) (by kernel_rfl) [0] (Qal (by kernel_rfl)) (by decide) (by rw [h0];rfl) (by kernel_rfl) (ac (Xa Qb.nl) an) (.own _ _ _ _)
open Go.Sort in
theorem Qxc {tg:Bool} {g:FuncId} (eg:Sy.Enters Tryz.prog g) (cf:Qb->Qb->Int) (hO:SWO (ltOf cf))
  (hs:∀ x y,Xt Tryz.prog g [] [.d (.agg (Qb.e x)),.d (.agg (Qb.e y))] [] (.d (.v (.int .i64 (cf x y))))) (xs:List Qb) (hb:xs.length * 16<=140737488355328):
  Xt Tryz.prog 103 [] [.d (.fn 145 [.rop false 1 (fun _=>[.sl tg xs.length (vec Qb.e Qb.z xs)]) 0 0]),.d (.fn g [])] [.flat false 2 24 (Ja Qb.z cf xs).length (vec Qb.e Qb.z (Ja Qb.z cf xs))] (.own 0 2 0 (Ja Qb.z cf xs).length):=by
 have h:=Qvn (tg:=tg) eg cf hO hs xs hb
 have:∀ n,n=xs.length->Xt Tryz.prog 103 [] [.d (.fn 145 [.rop false 1 (fun _=>[.sl tg xs.length (vec Qb.e Qb.z xs)]) 0 0]),.d (.fn g [])] [.flat false 2 24 n (vec Qb.e Qb.z (Ja Qb.z cf xs))] (.own 0 2 0 n):=fun n hn=>by
  subst hn
  exact h
 exact this _ (Qit _ hO xs)
theorem Wir (xs:List Qb):
  Xt Tryz.prog 104 [] [.d (.sl true xs.length (vec Qb.e Qb.z xs))] [.box 68 [.d (.sl true xs.length (vec Qb.e Qb.z xs))]] (.fn 145 [.ptr 0 0 0 0]):=by
 refine Wx Tryz.func104 rfl (nt:=4) rfl (lb rfl) fun X hP h0 hX=>?_
 have hT:Qw X.P TI:=hP▸Qjw
 have hf:X.P.funcs[104]? = some Tryz.f104:=hP▸Tryz.func104
 refine go hT 10 [2] (k':=Qv (Tryz.f104.body.getD .skip) [1,1] []) (st':=⟨4,[(2,.fn 145 [.ptr 0 0 0 0])],[.box 68 [.d (.sl true xs.length (vec Qb.e Qb.z xs))]]⟩) (by kernel_rfl) ?_
 exact Qf9 hf hX (av:=.fn 145 [.ptr 0 0 0 0]) (by kernel_rfl) [0] (Qal (by kernel_rfl)) (by decide) (by rw [h0];rfl) (by kernel_rfl) (ac (.box (.cons (.d (.sl fun _ _=>Qb.nl _)) .nil)) an) (.fn (.cons (.ptr _ _ _ _) .nil))
theorem Wme (n:Int) (h:0<=n/\n * 16<=140737488355328):Xt Tryz.prog 124 [] [.d (.v (.slice none 0 0)),.d (.v (.int .i64 n))] [.flat false 2 97 ([]:List Qa).length (vec Qa.e Qa.z [])] (.own 0 2 0 ([]:List Qa).length):=
 Wg5 Tryz.Wg4 Qa.z Qa.e 2 Tryz.t97 _ (by kernel_rfl) rfl (by decide) rfl rfl rfl Qa.nl n h.1 h.2 (by omega)
theorem Qok:Tryz.prog.underlying 26=some (.slice 97):=by kernel_rfl
theorem Wpe:Tryz.prog.underlying 3=some (.int .i64):=by kernel_rfl
theorem Quy:(Tryz.prog.info? 97).map (·.size)=some 2:=by kernel_rfl
set_option maxHeartbeats 4000000 in
set_option maxRecDepth 100000 in
theorem Qzb (b n c i vb vc:Nat) (A B R V:List Value) (VS:Array Value) (w:World) (hi:i < n) (Qgt:n+1<=c) (Wjs:c<=9223372036854775807) (hvb:vb≠b)
  (hb:w.heap[b]? = some (.cells (A ++ B ++ R).toArray 97 (0,0))) (hv:w.heap[vb]? = some (.cells VS 97 (0,0))) (hA:A.length=i * 2) (hB:B.length=(n - i) * 2) (hR:2<=R.length) (hV:V.length=2)
  (hVS:∀ (j:Nat) v,V[j]? = some v->VS[j]? = some v) (h1b:∀ v∈B,v.oneCell'=true) (h1v:∀ v∈V,v.oneCell'=true):
  Calls Tryz.prog 173 #[.slice (some ⟨b,0,none⟩) n c,.int .i64 i,.slice (some ⟨vb,0,none⟩) 1 vc] w fun e w'=>
   e=.returned (.slice (some ⟨b,0,none⟩) (n+1) c)/\w'=(w.drew.setRow b (A ++ (B ++ R).take 2 ++ B ++ R.drop 2).toArray).setRow b (A ++ V ++ B ++ R.drop 2).toArray:=by
 have hz2:¬ ((i:Int)=(n:Int)):=by omega
 have hov:∀ lb cb,(callFunc 200 #[.slice (some ⟨vb,0,none⟩) 1 vc,.slice (some ⟨b,(i+1) * 2,none⟩) lb cb]).run Tryz.prog w=.ok (.value (.bool false)) w:=fun lb cb=>by
  rw [run_callFunc_extern Tryz.func200 (by kernel_rfl) (by kernel_rfl) (by kernel_rfl) (e:=Extern.SlicesOverlaps.overlaps #[26,26] #[4]) (by kernel_rfl),
   Lib.run_overlaps_apart w 26 4 97 Qok 2 (fun w=>by kernel_rfl) ⟨vb,0,none⟩ ⟨b,(i+1) * 2,none⟩ 1 vc lb cb hvb 97 97 VS.size (A ++ B ++ R).toArray.size (by simp only [World.shape?,hv]) (by simp only [World.shape?,hb]) (by simp only [List.size_toArray,List.length_append];omega) (by simp only [World.frozen?,hv];simp) (by simp only [World.frozen?,hv];simp)]
  rfl
 have Qyu:∀ ty dc sc,(Builtin.copy_ #[26,26] ty #[.slice (some ⟨b,(i+1) * 2,none⟩) (n - i) dc,.slice (some ⟨b,i * 2,none⟩) (n+1 - i) sc]).run Tryz.prog w.drew=.ok (goInt (n - i:Nat)) (w.drew.setRow b (A ++ (B ++ R).take 2 ++ B ++ R.drop 2).toArray):=fun ty dc sc=>by
  have:=Wbh (sT:=26) Qok Quy w.drew b 97 A B R (i * 2) (n - i) hA hB hR hb h1b ty (n - i) dc (n+1 - i) sc (by show _=min _ _;omega)
  rwa [show i * 2+2=(i+1) * 2 by omega] at this
 obtain ⟨W1,hW1⟩:∃ W1,W1=w.drew.setRow b (A ++ (B ++ R).take 2 ++ B ++ R.drop 2).toArray:=⟨_,rfl⟩
 have hb1:W1.heap[b]? = some (.cells (A ++ (B ++ R).take 2 ++ (B ++ R.drop 2)).toArray 97 (0,0)):=by
  rw [hW1]
  have:=setRow_heap w.drew b _ (A ++ (B ++ R).take 2 ++ B ++ R.drop 2).toArray _ _ hb
  rw [this]
  simp only [List.append_assoc]
 have hv1:W1.heap[vb]? = some (.cells VS 97 (0,0)):=by
  rw [hW1,setRow_other _ _ _ _ hvb]
  exact hv
 have Wjt:∀ (W:World),W.heap=W1.heap->∀ ty dc,(Builtin.copy_ #[26,26] ty #[.slice (some ⟨b,i * 2,none⟩) (n+1 - i) dc,.slice (some ⟨vb,0,none⟩) 1 vc]).run Tryz.prog W=.ok (goInt 1) (W.setRow b (A ++ V ++ B ++ R.drop 2).toArray):=fun W hW ty dc=>by
  have:=Qjy (sT:=26) Qok Quy W b vb 97 97 A ((B ++ R).take 2) (B ++ R.drop 2) VS V (i * 2) 0 1 hA (by simp;omega) (by omega) (by rw [hW];exact hb1) (by rw [hW];exact hv1) (fun j v hj=>by rw [Nat.zero_add];exact hVS j v hj) h1v ty (n+1 - i) dc 1 vc (by show _=min _ _;omega)
  rw [this]
  simp only [List.append_assoc,goInt]
  rfl
 rw [<- hW1] at Qyu
 have hg1:goInt (1:Nat)=.int .i64 1:=rfl
 have hw1:IntKind.i64.wrap ((i:Int)+1)=(i:Int)+1:=by rw [IntKind.wrap_i64];omega
 have hbz:(0:Int)<=(i:Int)+1:=by omega
 have mixed:Tryz.prog.follows Departure.mixedOrders=true:=by kernel_rfl
 have hbn:(i:Int)<=(n:Int)+1:=by omega
 have hin:i<=n:=by omega
 have hb2:¬ (c=i+1):=by omega
 have hb4:¬ (c=i):=by omega
 rw [<- hW1]
 go_enter Tryz.func173,Tryz.ntmps173
 go_wp2_with (simp only [hov])
 go_region_law_o (refine step_copy_runI rfl _ _ 26 26 rfl _ _ (by simp [Act.eval,Act.put]) (by simp [Act.eval,Act.put]) (Qyu _ _ _) ?_)
 go_wp2_with (at_builtin;refine wpList_copy_runI _ rfl _ _ 26 26 rfl _ _ rfl rfl (Wjt _ (by first | rfl | (rw [hW1];rfl)) _ _) ?_)
 go_ret
 exact ⟨rfl,by rw [hW1];simp only [List.append_assoc]⟩
set_option maxHeartbeats 4000000 in
set_option maxRecDepth 100000 in
theorem Wd7 (base:Option Addr) (n c vb vc:Nat) (w w':World) (v':Value) (hnc:n<=c) (Wjs:c<=9223372036854775807) (Qy0:base=none->n=0/\c=0)
  (hr:(Builtin.append_ #[26,26] 26 #[.slice base n c,.slice (some ⟨vb,0,none⟩) 1 vc]).run Tryz.prog w=.ok v' w'):
  Calls Tryz.prog 173 #[.slice base n c,.int .i64 n,.slice (some ⟨vb,0,none⟩) 1 vc] w fun e w2=>e=.returned v'/\w2=w':=by
 cases base with
 | none=>
  obtain ⟨rfl,rfl⟩:=Qy0 rfl
  go_enter Tryz.func173,Tryz.ntmps173
  go_wp2_with (at_builtin;refine Lib.wpList_append_run _ rfl _ _ _ _ rfl _ _ rfl rfl _ _ hr ?_)
  all_goals (go_ret;exact ⟨rfl,rfl⟩)
 | some a=>
  go_enter Tryz.func173,Tryz.ntmps173
  go_wp2_with (at_builtin;refine Lib.wpList_append_run _ rfl _ _ _ _ rfl _ _ rfl rfl _ _ hr ?_)
  all_goals (go_ret;exact ⟨rfl,rfl⟩)
set_option maxHeartbeats 4000000 in
set_option maxRecDepth 100000 in
theorem Wat (b n c i vb vc:Nat) (A B R V:List Value) (VS:Array Value) (w:World) (hi:i < n) (hnc:n<=c) (Qgt:c < n+1) (Qys:(n+1) * 16<=140737488355328) (hvb:vb≠b)
  (hb:w.heap[b]? = some (.cells (A ++ B ++ R).toArray 97 (0,0))) (hv:w.heap[vb]? = some (.cells VS 97 (0,0))) (hA:A.length=i * 2) (hB:B.length=(n - i) * 2) (hV:V.length=2)
  (hVS:∀ (j:Nat) v,V[j]? = some v->VS[j]? = some v) (h1b:∀ v∈B,v.oneCell'=true) (h1v:∀ v∈V,v.oneCell'=true):
  Calls Tryz.prog 173 #[.slice (some ⟨b,0,none⟩) n c,.int .i64 i,.slice (some ⟨vb,0,none⟩) 1 vc] w fun e w'=>
   e=.returned (.slice (some ⟨w.heap.size,0,none⟩) (n+1) (grownCap w (n+1) c 97))/\∃ Z:List Value,Z.length=(grownCap w (n+1) c 97 - (n+1)) * 2/\w'=(w.drew.alloc (.cells (A ++ V ++ B ++ Z).toArray 97)).drew:=by
 obtain ⟨i0,hi0,hs0,hb0,hz0⟩:=Qjw.infoAt (show TI.info.lookup 97=some (2,16,[.int .i64 0,.int .i64 0]) from rfl)
 obtain ⟨zv,hzv,hzc⟩:=Option.map_eq_some_iff.1 hz0
 have hzs:zv.cells.size=2:=by rw [hzc];rfl
 have mixed:Tryz.prog.follows Departure.mixedOrders=true:=by kernel_rfl
 have hz2:¬ ((i:Int)=(n:Int)):=by omega
 have hz3:(c:Int) < (n:Int)+1:=by omega
 have hbw:b < w.heap.size:=(Array.getElem?_eq_some_iff.1 hb).1
 have hvw:vb < w.heap.size:=(Array.getElem?_eq_some_iff.1 hv).1
 have hold:(Builtin.firstCells i0.size i (.slice (some ⟨b,0,none⟩) i c)).run Tryz.prog w.drew=.ok A.toArray w.drew:=by
  rw [hs0]
  exact run_firstCells_some w.drew 2 i ⟨b,0,none⟩ i c A hA (fun j v hj=>by
   rw [Addr.add_lit,Nat.zero_add]
   have:w.drew.heap[b]? = some (.cells (A ++ B ++ R).toArray 97 (0,0)):=hb
   simp only [World.cell?,this,List.getElem?_toArray,List.append_assoc]
   rw [List.getElem?_append_left (List.getElem?_eq_some_iff.1 hj).1,hj]
   rfl)
 obtain ⟨G,hG⟩:∃ G,G=grownCap w (n+1) c 97:=⟨_,rfl⟩
 have hGn:n+1<=G:=by rw [hG];exact grownCap_ge w _ _ _
 have hG63:G<=9223372036854775807:=by
  have:=grownCap_le_maxLen w (n+1) c 97 (by unfold maxLen;omega)
  rw [<- hG] at this
  unfold maxLen at this
  omega
 obtain ⟨ZZ,hZl,hZZ⟩:∃ ZZ:List Value,ZZ.length=(G - i) * 2/\A.toArray ++ Builtin.zeroCells zv.cells (n+1 - i) ++ Builtin.zeroCells zv.cells (G - (n+1))=(A ++ ZZ).toArray:=by
  refine ⟨(Builtin.zeroCells zv.cells (n+1 - i) ++ Builtin.zeroCells zv.cells (G - (n+1))).toList, ?_, ?_⟩
  ·rw [Array.length_toList,Array.size_append,size_zeroCells,size_zeroCells,hzs]
   omega
  apply Array.ext'
  simp
 have hrz:∀ ty,(Builtin.append_ #[26,3] ty #[.slice (some ⟨b,0,none⟩) i c,.int .i64 ((n:Int)+1 - (i:Int))]).run Tryz.prog w =
   .ok (.slice (some ⟨w.heap.size,0,none⟩) (n+1) G) (w.drew.alloc (.cells (A ++ ZZ).toArray 97)):=fun ty=>by
  have h:=Lib.run_append_grow_zeros w 26 3 ty 97 i0 zv .i64 .i64 Qok Wpe hi0 hzv (some ⟨b,0,none⟩) i c A hold (n+1 - i) (by omega) (by omega) (by omega) (by omega) (by rw [hb0];omega) (by rw [hb0,show i+(n+1 - i)=n+1 by omega];exact growslice_fits Qgt Qys)
  rw [show i+(n+1 - i)=n+1 by omega,<- hG,hZZ] at h
  rw [show (n:Int)+1 - (i:Int)=((n+1 - i:Nat):Int) by omega]
  exact h
 obtain ⟨W1,hW1⟩:∃ W1,W1=w.drew.alloc (.cells (A ++ ZZ).toArray 97):=⟨_,rfl⟩
 have hN1:W1.heap[w.heap.size]? = some (.cells (A ++ ZZ.take 2 ++ ZZ.drop 2).toArray 97 (0,0)):=by
  rw [hW1,List.append_assoc,List.take_append_drop]
  exact heap_alloc_new w.drew _
 have hb1:W1.heap[b]? = some (.cells (A ++ B ++ R).toArray 97 (0,0)):=by
  rw [hW1]
  exact (Array.getElem?_push_lt hbw).trans ((Array.getElem?_eq_getElem hbw).symm.trans hb)
 have hv1:W1.heap[vb]? = some (.cells VS 97 (0,0)):=by
  rw [hW1]
  exact (Array.getElem?_push_lt hvw).trans ((Array.getElem?_eq_getElem hvw).symm.trans hv)
 have Qju:∀ (cs:Array Value),W1.setRow w.heap.size cs=w.drew.alloc (.cells cs 97):=fun cs=>by
  rw [hW1]
  exact Qki w.drew _ _ _ _ rfl
 have Qyv:∀ ty dc,(Builtin.copy_ #[26,26] ty #[.slice (some ⟨w.heap.size,i * 2,none⟩) (n+1 - i) dc,.slice (some ⟨vb,0,none⟩) 1 vc]).run Tryz.prog W1=.ok (goInt 1) (w.drew.alloc (.cells (A ++ V ++ ZZ.drop 2).toArray 97)):=fun ty dc=>by
  have:=Qjy (sT:=26) Qok Quy W1 w.heap.size vb 97 97 A (ZZ.take 2) (ZZ.drop 2) VS V (i * 2) 0 1 hA (by simp;omega) (by omega) hN1 hv1 (fun j v hj=>by rw [Nat.zero_add];exact hVS j v hj) h1v ty (n+1 - i) dc 1 vc (by show _=min _ _;omega)
  rw [this,Qju]
  rfl
 obtain ⟨W2,hW2⟩:∃ W2,W2=w.drew.alloc (.cells (A ++ V ++ ZZ.drop 2).toArray 97):=⟨_,rfl⟩
 have hN2:W2.drew.heap[w.heap.size]? = some (.cells ((A ++ V) ++ (ZZ.drop 2).take B.length ++ (ZZ.drop 2).drop B.length).toArray 97 (0,0)):=by
  rw [hW2,List.append_assoc (A ++ V),List.take_append_drop]
  exact heap_alloc_new w.drew _
 have hb2':W2.drew.heap[b]? = some (.cells (A ++ B ++ R).toArray 97 (0,0)):=by
  rw [hW2]
  exact (Array.getElem?_push_lt hbw).trans ((Array.getElem?_eq_getElem hbw).symm.trans hb)
 have Quf:∀ (cs:Array Value),W2.drew.setRow w.heap.size cs=(w.drew.alloc (.cells cs 97)).drew:=fun cs=>by
  rw [hW2]
  exact congrArg World.drew (Qki w.drew _ _ _ _ rfl)
 have Wju:∀ ty dc sc,(Builtin.copy_ #[26,26] ty #[.slice (some ⟨w.heap.size,(i+1) * 2,none⟩) (n - i) dc,.slice (some ⟨b,i * 2,none⟩) (n - i) sc]).run Tryz.prog W2.drew=.ok (goInt (n - i:Nat)) (w.drew.alloc (.cells (A ++ V ++ B ++ (ZZ.drop 2).drop B.length).toArray 97)).drew:=fun ty dc sc=>by
  have:=Qjy (sT:=26) Qok Quy W2.drew w.heap.size b 97 97 (A ++ V) ((ZZ.drop 2).take B.length) ((ZZ.drop 2).drop B.length) (A ++ B ++ R).toArray B ((i+1) * 2) (i * 2) (n - i) (by rw [List.length_append];omega) (by simp;omega) hB hN2 hb2' (fun j v hj=>by
   simp only [List.getElem?_toArray]
   rw [<- hA,List.append_assoc,List.getElem?_append_right (by omega),Nat.add_sub_cancel_left,List.getElem?_append_left (List.getElem?_eq_some_iff.1 hj).1,hj]) h1b ty (n - i) dc (n - i) sc (by show _=min _ _;omega)
  rw [this,Quf]
 rw [<- hW1] at hrz
 rw [<- hW2] at Qyv
 have hw1:IntKind.i64.wrap ((i:Int)+1)=(i:Int)+1:=by rw [IntKind.wrap_i64];omega
 have hbz:(0:Int)<=(i:Int)+1:=by omega
 have hin:i<=n:=by omega
 have hbn:(i:Int)<=(n:Int)+1:=by omega
 have hGi:¬ (G=i):=by omega
 have hGi1:¬ (G=i+1):=by omega
 have hci:¬ (c=i):=by omega
 refine Calls.mono (R:=fun e w'=>e=.returned (.slice (some ⟨w.heap.size,0,none⟩) (n+1) G)/\w'=(w.drew.alloc (.cells (A ++ V ++ B ++ (ZZ.drop 2).drop B.length).toArray 97)).drew) ?_ ?_
 ·clear hW1 hW2 hN1 hN2 hb1 hv1 Qju Quf hb2' hZZ hold hG
  go_enter Tryz.func173,Tryz.ntmps173
  go_wp2_with (first
   | (at_builtin;refine Lib.wpList_append_run _ rfl _ _ _ _ rfl _ _ rfl rfl _ _ (hrz _) ?_)
   | (at_builtin;refine wpList_copy_runI _ rfl _ _ 26 26 rfl _ _ rfl rfl (Qyv _ _) ?_))
  go_region_law_o (refine step_copy_runI rfl _ _ 26 26 rfl _ _ (by simp [Act.eval,Act.put]) (by simp [Act.eval,Act.put]) (Wju _ _ _) ?_)
  go_wp2
  go_ret
  exact ⟨rfl,by simp only [List.append_assoc,List.drop_drop,hB];rfl⟩
 rintro e w' ⟨rfl,rfl⟩
 refine ⟨by rw [hG],_, ?_,rfl⟩
 rw [<- hG,List.length_drop,List.length_drop,hZl,hB]
 omega
theorem Whb (xs:List Qa) (i:Int) (x:Qa) (h:(0<=i/\i<=(xs.length:Int))/\(xs.length+1) * 16<=140737488355328):
  Xt Tryz.prog 173 [.flat false 2 97 xs.length (vec Qa.e Qa.z xs),.flat false 2 97 1 (fun j=>[Qa.e x].getD j [])] [.own 0 2 0 xs.length,.d (.v (.int .i64 i)),.own 1 2 0 1]
   [.gone,.gone,.flat false 2 97 (xs.take i.toNat ++ x :: xs.drop i.toNat).length (vec Qa.e Qa.z (xs.take i.toNat ++ x :: xs.drop i.toNat))] (.own 2 2 0 (xs.take i.toNat ++ x :: xs.drop i.toNat).length):=
 Qss Qjw (t:=26) Qa.z 2 16 (by decide) rfl rfl rfl (fun x:Qa=>[.int .i64 x.Key,.int .i64 x.Val]) (fun _=>rfl) (fun x v h=>by simp at h;rcases h with rfl | rfl<;>rfl) Qa.e (fun _=>rfl) Wd7
  (fun b n c i vb vc A B R V VS w h1 h2 h3 h4 h5 h6 h7 h8 h9 h10 h11 h12 h13=>Qzb b n c i vb vc A B R V VS w h1 h2 h3 h4 h5 h6 h7 h8 h9 h10 h11 h12 h13)
  (fun b n c i vb vc A B R V VS w h1 h2 h3 h4 h5 h6 h7 h8 h9 h10 h11 h12 h13=>Wat b n c i vb vc A B R V VS w h1 h2 h3 h4 h5 h6 h7 h8 h9 h10 h11 h12 h13)
  xs i x h (by have:=h.2;omega)
theorem Wfx (xs:List Qh) (i j:Int) (h:(0<=i/\i < j)/\j=(xs.length:Int)):
  Xt Tryz.prog 222 [.flat false 10 138 xs.length (vec Qh.e Qh.z xs)] [.own 0 10 0 xs.length,.i i,.i j] [.flat false 10 138 (xs.take i.toNat).length (vec Qh.e Qh.z (xs.take i.toNat))] (.own 0 10 0 (xs.take i.toNat).length):=by
 obtain ⟨⟨h1,h2⟩,h3⟩:=h
 subst h3
 have hl:(xs.take i.toNat).length=i.toNat:=by rw [List.length_take];omega
 refine Wx Tryz.func222 rfl (nt:=33) rfl (lb rfl) fun X hP h0 hX=>?_
 have hT:Qw X.P TI:=hP▸Qjw
 have hf:X.P.funcs[222]? = some Tryz.f222:=hP▸Tryz.func222
 refine Xq hT 30 (Qv (Tryz.f222.body.getD .skip) [1,0,5] []) ⟨33,[(0,.own 0 10 0 xs.length),(1,.i i),(2,.i xs.length),(8,.own 0 10 0 xs.length),(9,.i i),(10,.i xs.length),(12,.i xs.length)],[.flat false 10 138 xs.length (vec Qh.e Qh.z xs)]⟩ ?_
 refine Wfe (id:=0) (s:=10) (off:=0) (n:=xs.length) (l:=(.i64,i)) (h:=(.i64,xs.length)) (m:=(.i64,xs.length)) (d:=13) (k':=Qv (Tryz.f222.body.getD .skip) [1,0,6] []) hT (by kernel_rfl) h1 (Int.le_of_lt h2) (Int.le_refl _) (Int.le_refl _) (by kernel_rfl) (by kernel_rfl) ?_
 refine Xq hT 8 (Qv (Tryz.f222.body.getD .skip) [1,1,0,1] []) ⟨33,[(0,.own 0 10 0 xs.length),(1,.i i),(2,.i xs.length),(16,.d (.v (.bool (decide (i=xs.length)))))],[.flat false 10 138 xs.length (vec Qh.e Qh.z xs)]⟩ ?_
 rw [decide_eq_false (show ¬ i=xs.length by omega)]
 refine Xq hT 30 (Qv (Tryz.f222.body.getD .skip) [1,1,1,1,0] []) ⟨33,[(0,.own 0 10 0 xs.length),(1,.i i),(2,.i xs.length),(7,.i xs.length)],[.flat false 10 138 xs.length (vec Qh.e Qh.z xs)]⟩ ?_
 refine Qab (hP▸mixed) 7 [0,1,2,7] (sm [.own 0 10 0 xs.length,.i i,.own 0 10 0 i.toNat,.own 0 10 0 xs.length,.i xs.length,.d (.sl true 0 (vec Qh.e Qh.z [])),.own 0 10 0 i.toNat])
  (opS (opS (Qd (Qd (opS (Qd (Qd op0 hT) hT) (fun R rest h=>Qtr (id:=0) (s:=10) (off:=0) (n:=xs.length) (l:=none) (h:=some (.i64,i)) (dst:=some 22) hT (by kernel_rfl) (Int.le_refl 0) h1 (Int.le_of_lt h2) (.inr rfl) (by kernel_rfl) h)) hT) hT) (fun R rest h=>Qts (tg:=true) (g:=vec Qh.e Qh.z []) (id:=0) (s:=10) (off:=0) (n:=xs.length) (l:=some (.i64,xs.length)) (h:=none) (dst:=some 25) hT (by kernel_rfl) (Int.natCast_nonneg _) rfl (Int.le_refl _) (by kernel_rfl) h)) (fun R rest h=>Wi0 (id:=0) (kk:=10) (n:=i.toNat) (m:=0) (by':=112) (t:=25) (e:=138) (z:=[.int .i64 0,.int .i64 0,.int .i64 0,.slice none 0 0,.int .i64 0,.int .i64 0,.int .i64 0,.int .i64 0,.bool false,.slice none 0 0]) (dst:=some 26) (tg:=true) (g:=vec Qh.e Qh.z []) hT (by kernel_rfl) (by kernel_rfl) (by kernel_rfl) (by kernel_rfl) h)) ?_
 refine Xq hT 30 (Qv (Tryz.f222.body.getD .skip) [1,1,1,1,1,0,4] []) ⟨33,[(0,.own 0 10 0 i.toNat),(27,.own 0 10 0 i.toNat),(29,.i i.toNat),(30,.i xs.length)],[.flat false 10 138 xs.length (vec Qh.e Qh.z xs)]⟩ ?_
 refine We9 (id:=0) (s:=10) (off:=0) (n:=i.toNat) (N:=xs.length) (kk:=.i64) (kh:=.i64) (l:=i.toNat) (h2:=xs.length) (d:=31) (ty:=138) (g:=vec Qh.e Qh.z xs) (k':=Qv (Tryz.f222.body.getD .skip) [1,1,1,1,1,0,6] []) hT [0] (by kernel_rfl) rfl (Int.natCast_nonneg _) (by omega) (Int.le_refl _) (by omega) (by omega) rfl (by decide) (by kernel_rfl) (st':=⟨33,[(0,.own 0 10 0 i.toNat)],[.flat false 10 138 i.toNat (vec Qh.e Qh.z xs)]⟩) (by kernel_rfl) ?_
 refine Qx7 0 (kk:=10) (n:=i.toNat) (m:=(xs.take i.toNat).length) (fz:=false) (ty:=138) (g:=vec Qh.e Qh.z xs) (vec Qh.e Qh.z (xs.take i.toNat)) (by kernel_rfl) (Nat.le_of_eq hl) Waj (st':=⟨33,[(0,.own 0 10 0 i.toNat)],[.flat false 10 138 (xs.take i.toNat).length (vec Qh.e Qh.z (xs.take i.toNat))]⟩) (by kernel_rfl) ?_
 refine Qiw hl.symm (fun nn=>⟨33,[(0,.own 0 10 0 nn)],[.flat false 10 138 (xs.take i.toNat).length (vec Qh.e Qh.z (xs.take i.toNat))]⟩) ?_
 refine Xq hT 30 (Qv (Tryz.f222.body.getD .skip) [1,1,1,1,1,1,1] []) ⟨33,[(6,.own 0 10 0 (xs.take i.toNat).length)],[.flat false 10 138 (xs.take i.toNat).length (vec Qh.e Qh.z (xs.take i.toNat))]⟩ ?_
 exact Qd9 hf hX h0 (.own 0 10 0 (xs.take i.toNat).length) [0] (ac (Xa Qh.nl) an) (.own _ _ _ _)
end Go.SyP
