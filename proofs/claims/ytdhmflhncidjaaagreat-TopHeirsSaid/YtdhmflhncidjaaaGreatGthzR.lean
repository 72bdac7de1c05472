/- The runner: tables and bodies, printed by runtab.py. -/
import Derived.Test.YtdhmflhncidjaaaGreatProg
import Derived.Test.YtdhmflhncidjaaaGreatSyRun
import Derived.Test.YtdhmflhncidjaaaGreatSyBd
import Derived.Test.YtdhmflhncidjaaaGreatSyQ
import Derived.Test.YtdhmflhncidjaaaGreatSyU
import Derived.Shelf.Strings.Builder1
import Derived.Shelf.Spec.SlicesInsertGrow
set_option linter.unusedVariables false
namespace Go.SyP
open Go Go.Sy Go.Proofs
def TR:Tab where
 info:=[(3,(1,8,[.int .i64 0])),(4,(1,1,[.bool false])),(5,(1,1,[.int .u8 0])),(9,(1,16,[.string ⟨#[]⟩])),(43,(1,8,[.int .i64 0])),(55,(1,8,[.pointer none])),(57,(1,8,[.pointer none])),(58,(1,24,[.slice none 0 0])),(64,(1,24,[.slice none 0 0])),(66,(3,40,[.slice none 0 0,.int .i64 0,.int .i64 0])),(99,(1,8,[.map none])),(101,(7,88,[.slice none 0 0,.map none,.int .i64 0,.slice none 0 0,.int .i64 0,.int .i64 0,.bool false])),(104,(6,48,[.pointer none,.int .i64 0,.int .i64 0,.int .i64 0,.int .i64 0,.bool false])),(106,(5,48,[.int .i64 0,.int .i64 0,.int .i64 0,.int .i64 0,.string ⟨#[]⟩])),(155,(1,8,[.pointer none])),(156,(1,24,[.slice none 0 0])),(158,(2,32,[.pointer none,.slice none 0 0])),(238,(1,4,[.int .u32 0])),(245,(1,8,[.pointer none])),(273,(2,24,[.string ⟨#[]⟩,.int .i64 0]))]
 Qkp:=[(3,false),(4,false),(5,false),(9,false),(43,false),(55,false),(57,false),(58,false),(64,false),(66,true),(99,false),(101,true),(104,true),(106,true),(155,false),(156,false),(158,true),(238,false),(245,false),(273,true)]
 Qn2:=[((66,0),(0,64)),((66,1),(1,3)),((66,2),(2,3)),((101,0),(0,58)),((101,1),(1,99)),((101,2),(2,3)),((101,3),(3,66)),((101,4),(6,4)),((104,0),(0,55)),((104,1),(1,3)),((104,2),(2,3)),((104,3),(3,3)),((104,4),(4,3)),((104,5),(5,4)),((106,0),(0,3)),((106,1),(1,3)),((106,2),(2,3)),((106,3),(3,3)),((106,4),(4,9)),((158,0),(0,155)),((158,1),(1,156)),((273,0),(0,9)),((273,1),(1,43))]
 Qbn:=[(58,9),(64,3),(156,5)]
 strs:=[9]
 ints:=[(3,.i64),(5,.u8),(43,.i64),(238,.u32)]
 Qs1:=[]
 has:=[3,5,43,238]
 Qkg:=[(55,101),(57,104),(155,158),(245,273)]
 Qly:=[4]
 Qux:=[(66,[(0,1),(1,1),(2,1)]),(101,[(0,1),(1,1),(2,1),(3,3),(6,1)]),(104,[(0,1),(1,1),(2,1),(3,1),(4,1),(5,1)]),(106,[(0,1),(1,1),(2,1),(3,1),(4,1)]),(158,[(0,1),(1,1)]),(273,[(0,1),(1,1)])]
 eqs:=[]
theorem Qtf:Qw Tryz.prog TR:=⟨by kernel_rfl,by kernel_rfl,by kernel_rfl,by kernel_rfl,by kernel_rfl,by kernel_rfl,by kernel_rfl,by kernel_rfl,by kernel_rfl,by kernel_rfl,by kernel_rfl,by kernel_rfl⟩
noncomputable def BR:List (Nat × Func):=[(5,Tryz.f5),(15,Tryz.f15),(16,Tryz.f16),(17,Tryz.f17),(18,Tryz.f18),(19,Tryz.f19),(20,Tryz.f20),(41,Tryz.f41),(42,Tryz.f42),(43,Tryz.f43),(44,Tryz.f44),(45,Tryz.f45),(46,Tryz.f46),(47,Tryz.f47),(48,Tryz.f48),(50,Tryz.f50),(51,Tryz.f51),(52,Tryz.f52),(53,Tryz.f53),(54,Tryz.f54),(84,Tryz.f84),(85,Tryz.f85),(86,Tryz.f86),(89,Tryz.f89),(90,Tryz.f90),(91,Tryz.f91),(92,Tryz.f92),(93,Tryz.f93),(94,Tryz.f94),(133,Tryz.f133),(134,Tryz.f134),(137,Tryz.f137),(138,Tryz.f138),(139,Tryz.f139),(174,Tryz.f174),(175,Tryz.f175),(176,Tryz.f176),(177,Tryz.f177),(178,Tryz.f178),(180,Tryz.f180),(181,Tryz.f181),(182,Tryz.f182),(202,Tryz.f202),(203,Tryz.f203),(204,Tryz.f204),(217,Tryz.f217)]
theorem Wky:Qtk Tryz.prog BR:=⟨⟨Tryz.func5,by kernel_rfl,by kernel_rfl⟩,⟨Tryz.func15,by kernel_rfl,by kernel_rfl⟩,⟨Tryz.func16,by kernel_rfl,by kernel_rfl⟩,⟨Tryz.func17,by kernel_rfl,by kernel_rfl⟩,⟨Tryz.func18,by kernel_rfl,by kernel_rfl⟩,⟨Tryz.func19,by kernel_rfl,by kernel_rfl⟩,⟨Tryz.func20,by kernel_rfl,by kernel_rfl⟩,⟨Tryz.func41,by kernel_rfl,by kernel_rfl⟩,⟨Tryz.func42,by kernel_rfl,by kernel_rfl⟩,⟨Tryz.func43,by kernel_rfl,by kernel_rfl⟩,⟨Tryz.func44,by kernel_rfl,by kernel_rfl⟩,⟨Tryz.func45,by kernel_rfl,by kernel_rfl⟩,⟨Tryz.func46,by kernel_rfl,by kernel_rfl⟩,⟨Tryz.func47,by kernel_rfl,by kernel_rfl⟩,⟨Tryz.func48,by kernel_rfl,by kernel_rfl⟩,⟨Tryz.func50,by kernel_rfl,by kernel_rfl⟩,⟨Tryz.func51,by kernel_rfl,by kernel_rfl⟩,⟨Tryz.func52,by kernel_rfl,by kernel_rfl⟩,⟨Tryz.func53,by kernel_rfl,by kernel_rfl⟩,⟨Tryz.func54,by kernel_rfl,by kernel_rfl⟩,⟨Tryz.func84,by kernel_rfl,by kernel_rfl⟩,⟨Tryz.func85,by kernel_rfl,by kernel_rfl⟩,⟨Tryz.func86,by kernel_rfl,by kernel_rfl⟩,⟨Tryz.func89,by kernel_rfl,by kernel_rfl⟩,⟨Tryz.func90,by kernel_rfl,by kernel_rfl⟩,⟨Tryz.func91,by kernel_rfl,by kernel_rfl⟩,⟨Tryz.func92,by kernel_rfl,by kernel_rfl⟩,⟨Tryz.func93,by kernel_rfl,by kernel_rfl⟩,⟨Tryz.func94,by kernel_rfl,by kernel_rfl⟩,⟨Tryz.func133,by kernel_rfl,by kernel_rfl⟩,⟨Tryz.func134,by kernel_rfl,by kernel_rfl⟩,⟨Tryz.func137,by kernel_rfl,by kernel_rfl⟩,⟨Tryz.func138,by kernel_rfl,by kernel_rfl⟩,⟨Tryz.func139,by kernel_rfl,by kernel_rfl⟩,⟨Tryz.func174,by kernel_rfl,by kernel_rfl⟩,⟨Tryz.func175,by kernel_rfl,by kernel_rfl⟩,⟨Tryz.func176,by kernel_rfl,by kernel_rfl⟩,⟨Tryz.func177,by kernel_rfl,by kernel_rfl⟩,⟨Tryz.func178,by kernel_rfl,by kernel_rfl⟩,⟨Tryz.func180,by kernel_rfl,by kernel_rfl⟩,⟨Tryz.func181,by kernel_rfl,by kernel_rfl⟩,⟨Tryz.func182,by kernel_rfl,by kernel_rfl⟩,⟨Tryz.func202,by kernel_rfl,by kernel_rfl⟩,⟨Tryz.func203,by kernel_rfl,by kernel_rfl⟩,⟨Tryz.func204,by kernel_rfl,by kernel_rfl⟩,⟨Tryz.func217,by kernel_rfl,by kernel_rfl⟩,trivial⟩
end Go.SyP
set_option linter.unusedSimpArgs false
namespace Go.SyP
open Go Go.Sy Go.Proofs Go.Lib Go.RowKit
theorem Wgs:Sy.Enters Tryz.prog 87:=Qy Tryz.func87 (by kernel_rfl) (by kernel_rfl)
theorem Wgt:Sy.Enters Tryz.prog 88:=Qy Tryz.func88 (by kernel_rfl) (by kernel_rfl)
theorem Qt5:Sy.Enters Tryz.prog 135:=Qy Tryz.func135 (by kernel_rfl) (by kernel_rfl)
theorem Wim:(Tryz.prog.info? 158).map (·.size)=some 2:=by kernel_rfl
theorem Wkc:liesAt Tryz.prog Tryz.prog.depth 158 (2 / Tryz.prog.cellsOf 158) 0 158 1=true:=by kernel_rfl
set_option maxHeartbeats 1000000 in
set_option maxRecDepth 100000 in
theorem Wcf (b:Nat) (w:World) (h0:w.cell? ⟨b,0,none⟩=some (.pointer (some ⟨b,0,none⟩))):
  Calls Tryz.prog 135 #[.pointer (some ⟨b,0,none⟩)] w fun e w'=>e=.returned (.tuple #[])/\w'=w:=by
 obtain ⟨j,hj,_⟩:=Option.map_eq_some_iff.1 Wim
 have mixed:Tryz.prog.follows Departure.mixedOrders=true:=by kernel_rfl
 go_enter Tryz.func135,Tryz.ntmps135
 go_wp2
 rw [Lib.run_neq_ptr_same w _ Tryz.underlying155 hj]
 go_wp2
 go_end0
 exact ⟨rfl,rfl⟩
set_option maxHeartbeats 1000000 in
set_option maxRecDepth 100000 in
theorem War (b:Nat) (w:World) (h0:w.cell? ⟨b,0,none⟩=some (.pointer none)) (hsh:w.shape? b=some (158,2)) (hfz:w.frozen? ⟨b,0,none⟩=false):
  Calls Tryz.prog 135 #[.pointer (some ⟨b,0,none⟩)] w fun e w'=>e=.returned (.tuple #[])/\w'=w.setCell ⟨b,0,none⟩ (.pointer (some ⟨b,0,none⟩)):=by
 obtain ⟨j,hj,hjs⟩:=Option.map_eq_some_iff.1 Wim
 have mixed:Tryz.prog.follows Departure.mixedOrders=true:=by kernel_rfl
 go_enter Tryz.func135,Tryz.ntmps135
 go_wp2
 rw [Lib.run_to_unsafe w ⟨b,0,none⟩ Tryz.underlying155 Tryz.underlying247 hj (by rw [hjs];decide) hsh (Nat.zero_lt_succ 1)]
 simp only [Result.andThen]
 rw [Oper.upon_value]
 go_wp2
 rw [run_callFunc_extern Tryz.func179 (by kernel_rfl) (by kernel_rfl) (by kernel_rfl) (e:=Extern.AbiNoEscape.same) (by kernel_rfl)]
 rw [Lib.run_noEscape]
 simp only [Result.andThen]
 rw [Oper.upon_value]
 go_wp2
 rw [Lib.run_from_unsafe w ⟨b,0,none⟩ Tryz.underlying247 Tryz.underlying155 hj hsh Wkc]
 simp only [Result.andThen]
 rw [Oper.upon_value]
 go_wp2
 go_end0
 exact ⟨rfl,rfl⟩
theorem Qtu:Wa6 Tryz.prog 135 158:=⟨Wcf,War⟩
def TB:Tab where
 info:=[(5,1,1,[.int .u8 0]),(156,1,24,[.slice none 0 0]),(158,2,32,[.pointer none,.slice none 0 0])]
 Qkp:=[(5,false),(156,false),(158,true)]
 Qn2:=[((158,1),(1,156))]
 Qbn:=[(156,5)]
 strs:=[9]
theorem Wpf:Qw Tryz.prog TB:=⟨by kernel_rfl,by kernel_rfl,by kernel_rfl,by kernel_rfl,by kernel_rfl,by kernel_rfl,by kernel_rfl,by kernel_rfl,by kernel_rfl,by kernel_rfl,by kernel_rfl,by kernel_rfl⟩
theorem Wb9 (a:AV) (ha:a=.np\/a=.ptr 0 0 0 0) (s t:ByteArray) (hb:s.size+t.size<=140737488355328):
  Xt Tryz.prog 87 [.box 158 [a,.own 1 1 0 (Xr s).length],.flat false 1 5 (Xr s).length (vec (eI .u8) 0 (Xr s))] [.ptr 0 0 0 0,.s t] [.box 158 [.ptr 0 0 0 0,.own 2 1 0 (Xr (s ++ t)).length],.gone,.flat false 1 5 (Xr (s ++ t)).length (vec (eI .u8) 0 (Xr (s ++ t)))] (.Ql [.i (t.size:Int),.d (.v .nilIface)]):=by
 rcases ha with rfl | rfl
 ·refine Wx Tryz.func87 rfl (nt:=19) rfl (Nat.le_of_ble_eq_true rfl) fun X hP h0 hX=>?_
  have hT:Qw X.P TB:=hP▸Wpf
  have hf:X.P.funcs[87]? = some Tryz.f87:=hP▸Tryz.func87
  rw [Qjm]
  refine Xq hT 8 (Qv (Tryz.f87.body.getD .skip) [1,0,1] []) ⟨19,[(0,.ptr 0 0 0 0),(1,.s t),(6,.ptr 0 0 0 0)],[.box 158 [.np,.own 1 1 0 (Xr s).length],.flat false 1 5 (Xr s).length (vec (eI .u8) 0 (Xr s))]⟩ ?_
  refine Zd (Xx:=[.ptr 0 0 0 0]) (dst:=some 7) (k':=Qv (Tryz.f87.body.getD .skip) [1,0,2] []) [0,1] [0,1] hP Qt5 (Wbd Qtu (.np) (.inl rfl) (Xr s).length (Xr s)) (by kernel_rfl) (Qj2 rfl rfl rfl rfl (by decide)) (.cons (.same (.ptr 0 0 0 0)) .nil) (st':=⟨19,[(0,.ptr 0 0 0 0),(1,.s t)],[.box 158 [.ptr 0 0 0 0,.own 1 1 0 (Xr s).length],.flat false 1 5 (Xr s).length (vec (eI .u8) 0 (Xr s))]⟩) (by kernel_rfl) ?_
  refine Xq hT 9 (Qv (Tryz.f87.body.getD .skip) [1,1,0,6] []) ⟨19,[(1,.s t),(8,.ptr 0 0 0 0),(12,.own 1 1 0 (Xr s).length),(13,.s t)],[.box 158 [.ptr 0 0 0 0,.own 1 1 0 (Xr s).length],.flat false 1 5 (Xr s).length (vec (eI .u8) 0 (Xr s))]⟩ ?_
  refine Qtm (id:=1) (by':=1) (t:=156) (e:=5) (z:=[.int .u8 0]) (dst:=some 14) (k':=Qv (Tryz.f87.body.getD .skip) [1,1,0,7] []) hT (Xr s) t [1,8,14] (by kernel_rfl) (by kernel_rfl) (by kernel_rfl) (by kernel_rfl) (by kernel_rfl) (by rw [Qfk];omega) (by rw [Qfk];omega) (st':=⟨19,[(1,.s t),(8,.ptr 0 0 0 0),(14,.own 2 1 0 (Xr s ++ Xr t).length)],[.box 158 [.ptr 0 0 0 0,.own 1 1 0 (Xr s).length],.gone,.flat false 1 5 (Xr s ++ Xr t).length (vec (eI .u8) 0 (Xr s ++ Xr t))]⟩) (by kernel_rfl) ?_
  refine Xq hT 11 (Qv (Tryz.f87.body.getD .skip) [1,1,1,1] []) ⟨19,[(4,.i (t.size:Int)),(5,.d (.v .nilIface))],[.box 158 [.ptr 0 0 0 0,.own 2 1 0 (Xr s ++ Xr t).length],.gone,.flat false 1 5 (Xr s ++ Xr t).length (vec (eI .u8) 0 (Xr s ++ Xr t))]⟩ ?_
  exact Qf9 hf hX (av:=.Ql [.i (t.size:Int),.d (.v .nilIface)]) (by kernel_rfl) [0,1,2] (Qal (by kernel_rfl)) (by decide) (by rw [h0];rfl) (by kernel_rfl) (fun _ h=>all_cons (.box (.cons (.ptr _ _ _ _) (.cons (.own _ _ _ _) .nil))) (fun _ h=>all_cons .gone (fun _ h=>all_cons (Xa (nlI .u8)) (fun _ h=>all_nil h) h) h) h) (.Ql (.cons (.d (.v _)) (.cons (.d (.v _)) .nil)))
 refine Wx Tryz.func87 rfl (nt:=19) rfl (Nat.le_of_ble_eq_true rfl) fun X hP h0 hX=>?_
 have hT:Qw X.P TB:=hP▸Wpf
 have hf:X.P.funcs[87]? = some Tryz.f87:=hP▸Tryz.func87
 rw [Qjm]
 refine Xq hT 8 (Qv (Tryz.f87.body.getD .skip) [1,0,1] []) ⟨19,[(0,.ptr 0 0 0 0),(1,.s t),(6,.ptr 0 0 0 0)],[.box 158 [.ptr 0 0 0 0,.own 1 1 0 (Xr s).length],.flat false 1 5 (Xr s).length (vec (eI .u8) 0 (Xr s))]⟩ ?_
 refine Zd (Xx:=[.ptr 0 0 0 0]) (dst:=some 7) (k':=Qv (Tryz.f87.body.getD .skip) [1,0,2] []) [0,1] [0,1] hP Qt5 (Wbd Qtu (.ptr 0 0 0 0) (.inr rfl) (Xr s).length (Xr s)) (by kernel_rfl) (Qj2 rfl rfl rfl rfl (by decide)) (.cons (.same (.ptr 0 0 0 0)) .nil) (st':=⟨19,[(0,.ptr 0 0 0 0),(1,.s t)],[.box 158 [.ptr 0 0 0 0,.own 1 1 0 (Xr s).length],.flat false 1 5 (Xr s).length (vec (eI .u8) 0 (Xr s))]⟩) (by kernel_rfl) ?_
 refine Xq hT 9 (Qv (Tryz.f87.body.getD .skip) [1,1,0,6] []) ⟨19,[(1,.s t),(8,.ptr 0 0 0 0),(12,.own 1 1 0 (Xr s).length),(13,.s t)],[.box 158 [.ptr 0 0 0 0,.own 1 1 0 (Xr s).length],.flat false 1 5 (Xr s).length (vec (eI .u8) 0 (Xr s))]⟩ ?_
 refine Qtm (id:=1) (by':=1) (t:=156) (e:=5) (z:=[.int .u8 0]) (dst:=some 14) (k':=Qv (Tryz.f87.body.getD .skip) [1,1,0,7] []) hT (Xr s) t [1,8,14] (by kernel_rfl) (by kernel_rfl) (by kernel_rfl) (by kernel_rfl) (by kernel_rfl) (by rw [Qfk];omega) (by rw [Qfk];omega) (st':=⟨19,[(1,.s t),(8,.ptr 0 0 0 0),(14,.own 2 1 0 (Xr s ++ Xr t).length)],[.box 158 [.ptr 0 0 0 0,.own 1 1 0 (Xr s).length],.gone,.flat false 1 5 (Xr s ++ Xr t).length (vec (eI .u8) 0 (Xr s ++ Xr t))]⟩) (by kernel_rfl) ?_
 refine Xq hT 11 (Qv (Tryz.f87.body.getD .skip) [1,1,1,1] []) ⟨19,[(4,.i (t.size:Int)),(5,.d (.v .nilIface))],[.box 158 [.ptr 0 0 0 0,.own 2 1 0 (Xr s ++ Xr t).length],.gone,.flat false 1 5 (Xr s ++ Xr t).length (vec (eI .u8) 0 (Xr s ++ Xr t))]⟩ ?_
 exact Qf9 hf hX (av:=.Ql [.i (t.size:Int),.d (.v .nilIface)]) (by kernel_rfl) [0,1,2] (Qal (by kernel_rfl)) (by decide) (by rw [h0];rfl) (by kernel_rfl) (fun _ h=>all_cons (.box (.cons (.ptr _ _ _ _) (.cons (.own _ _ _ _) .nil))) (fun _ h=>all_cons .gone (fun _ h=>all_cons (Xa (nlI .u8)) (fun _ h=>all_nil h) h) h) h) (.Ql (.cons (.d (.v _)) (.cons (.d (.v _)) .nil)))
set_option maxHeartbeats 2000000 in
set_option maxRecDepth 100000 in
theorem We0 (b g cap n:Nat) (p:Value) (cur:Array Value) (l:List UInt8) (w:World) (h0:l≠[]) (hn:l.length<=cap) (hcm:cap<=maxLen) (hcs:cur.size=cap)
  (hbk:w.heap[b]? = some (.cells #[p,.slice (some ⟨g,0,none⟩) l.length cap] 158 (0,0))) (hg:w.heap[g]? = some (.cells cur 5 (0,0))) (hx:∀ (j:Nat) x,l[j]? = some x->cur[j]? = some (.int .u8 x.toNat)):
  Calls Tryz.prog 88 #[.pointer (some ⟨b,0,none⟩)] w fun e w'=>e=.returned (.string ⟨l.toArray⟩)/\w'=w.drew.freeze ⟨g,0,none⟩ l.length:=by
 have hl0:l.length≠0:=by simpa using h0
 have c1:w.drew.cell? ⟨b,1,none⟩=some (.slice (some ⟨g,0,none⟩) l.length cap):=by
  have:w.drew.heap[b]? = some (.cells #[p,.slice (some ⟨g,0,none⟩) l.length cap] 158 (0,0)):=hbk
  rw [Lib.cell_of_heap this];rfl
 have hSD:(Builtin.unsafeSliceData_ #[156] 208 #[.slice (some ⟨g,0,none⟩) l.length cap]).run Tryz.prog w.drew=.ok (.pointer (some ⟨g,0,none⟩)) w.drew:=
  Lib.run_unsafeSliceData_row _ _ _ _ _ _ (by omega)
 have hUS:(Builtin.unsafeString_ #[208,3] 9 #[.pointer (some ⟨g,0,none⟩),.int .i64 l.length]).run Tryz.prog w.drew=.ok (.string ⟨l.toArray⟩) (w.drew.freeze ⟨g,0,none⟩ l.length):=by
  refine Lib.run_unsafeString_row w.drew 208 3 9 5 Tryz.underlying208 (by kernel_rfl) g cur.size (by have hg':w.drew.heap[g]? = some (.cells cur 5 (0,0)):=hg;simp [World.shape?,hg']) l h0 (by omega) (by unfold maxLen at hcm;omega) ?_
  intro j x hx'
  have hg':w.drew.heap[g]? = some (.cells cur 5 (0,0)):=hg
  rw [Addr.add_lit,Nat.zero_add,Lib.cell_of_heap hg']
  exact hx j x hx'
 have mixed:Tryz.prog.follows Departure.mixedOrders=true:=by kernel_rfl
 go_enter Tryz.func88,Tryz.ntmps88
 go_wp2
 go_region_o
 all_goals (go_wp2;go_ret;exact ⟨rfl,rfl⟩)
set_option maxHeartbeats 2000000 in
set_option maxRecDepth 100000 in
theorem Wil (b:Nat) (p:Value) (w:World) (hbk:w.heap[b]? = some (.cells #[p,.slice none 0 0] 158 (0,0))):
  Calls Tryz.prog 88 #[.pointer (some ⟨b,0,none⟩)] w fun e w'=>e=.returned (.string ⟨#[]⟩)/\w'=w.drew:=by
 have hUS:∀ W q,(Builtin.unsafeString_ #[208,3] 9 #[.pointer q,.int .i64 0]).run Tryz.prog W=.ok (.string .empty) W:=fun W q=>Lib.run_unsafeString_none W _ _ _ q
 have c1:w.drew.cell? ⟨b,1,none⟩=some (.slice none 0 0):=by
  have:w.drew.heap[b]? = some (.cells #[p,.slice none 0 0] 158 (0,0)):=hbk
  rw [Lib.cell_of_heap this];rfl
 have hSD:(Builtin.unsafeSliceData_ #[156] 208 #[.slice none 0 0]).run Tryz.prog w.drew=.ok (.pointer none) w.drew:=rfl
 have mixed:Tryz.prog.follows Departure.mixedOrders=true:=by kernel_rfl
 go_enter Tryz.func88,Tryz.ntmps88
 go_wp2
 go_region_o
 all_goals (go_wp2;go_ret;exact ⟨rfl,rfl⟩)
set_option maxHeartbeats 2000000 in
set_option maxRecDepth 100000 in
theorem Wez (b g cap:Nat) (p:Value) (w:World) (hc0:cap≠0) (hbk:w.heap[b]? = some (.cells #[p,.slice (some ⟨g,0,none⟩) 0 cap] 158 (0,0))):
  Calls Tryz.prog 88 #[.pointer (some ⟨b,0,none⟩)] w fun e w'=>e=.returned (.string ⟨#[]⟩)/\w'=w.drew:=by
 have hUS:∀ W q,(Builtin.unsafeString_ #[208,3] 9 #[.pointer q,.int .i64 0]).run Tryz.prog W=.ok (.string .empty) W:=fun W q=>Lib.run_unsafeString_none W _ _ _ q
 have c1:w.drew.cell? ⟨b,1,none⟩=some (.slice (some ⟨g,0,none⟩) 0 cap):=by
  have:w.drew.heap[b]? = some (.cells #[p,.slice (some ⟨g,0,none⟩) 0 cap] 158 (0,0)):=hbk
  rw [Lib.cell_of_heap this];rfl
 have hSD:(Builtin.unsafeSliceData_ #[156] 208 #[.slice (some ⟨g,0,none⟩) 0 cap]).run Tryz.prog w.drew=.ok (.pointer (some ⟨g,0,none⟩)) w.drew:=
  Lib.run_unsafeSliceData_row _ _ _ _ _ _ hc0
 clear hc0
 have mixed:Tryz.prog.follows Departure.mixedOrders=true:=by kernel_rfl
 go_enter Tryz.func88,Tryz.ntmps88
 go_wp2
 go_region_o
 all_goals (go_wp2;go_ret;exact ⟨rfl,rfl⟩)
set_option maxHeartbeats 2000000 in
set_option maxRecDepth 100000 in
theorem Waa (b g:Nat) (p:Value) (cur:Array Value) (w:World) (hbk:w.heap[b]? = some (.cells #[p,.slice (some ⟨g,0,none⟩) 0 0] 158 (0,0))) (hg:w.heap[g]? = some (.cells cur 5 (0,0))):
  Calls Tryz.prog 88 #[.pointer (some ⟨b,0,none⟩)] w fun e w'=>e=.returned (.string ⟨#[]⟩)/\w'=w.drew.alloc (.view ⟨g,0,none⟩ 5):=by
 have hUS:∀ W q,(Builtin.unsafeString_ #[208,3] 9 #[.pointer q,.int .i64 0]).run Tryz.prog W=.ok (.string .empty) W:=fun W q=>Lib.run_unsafeString_none W _ _ _ q
 have hlt:b < w.heap.size:=(Array.getElem?_eq_some_iff.1 hbk).1
 have c1:w.drew.cell? ⟨b,1,none⟩=some (.slice (some ⟨g,0,none⟩) 0 0):=by
  have:w.drew.heap[b]? = some (.cells #[p,.slice (some ⟨g,0,none⟩) 0 0] 158 (0,0)):=hbk
  rw [Lib.cell_of_heap this];rfl
 have hSD:(Builtin.unsafeSliceData_ #[156] 208 #[.slice (some ⟨g,0,none⟩) 0 0]).run Tryz.prog w.drew=.ok (.pointer (some ⟨w.drew.heap.size,0,none⟩)) (w.drew.alloc (.view ⟨g,0,none⟩ 5)):=
  Lib.run_unsafeSliceData_zero w.drew _ _ 5 Tryz.underlying208 ⟨g,0,none⟩ 0 (5,cur.size) (by have hg':w.drew.heap[g]? = some (.cells cur 5 (0,0)):=hg;simp [World.shape?,hg'])
 have c2:(w.drew.alloc (.view ⟨g,0,none⟩ 5)).cell? ⟨b,1,none⟩=some (.slice (some ⟨g,0,none⟩) 0 0):=by
  have:(w.drew.alloc (.view ⟨g,0,none⟩ 5)).heap[b]? = _:=(Lib.alloc_old w.drew _ b hlt).trans hbk
  rw [Lib.cell_of_heap this];rfl
 have c3:(w.alloc (.view ⟨g,0,none⟩ 5)).drew.cell? ⟨b,1,none⟩=some (.slice (some ⟨g,0,none⟩) 0 0):=c2
 have c0:w.cell? ⟨b,1,none⟩=some (.slice (some ⟨g,0,none⟩) 0 0):=c1
 have mixed:Tryz.prog.follows Departure.mixedOrders=true:=by kernel_rfl
 go_enter Tryz.func88,Tryz.ntmps88
 go_wp2
 go_region_o
 all_goals (go_wp2;go_ret;exact ⟨rfl,rfl⟩)
theorem Wjb:We2 Tryz.prog 88 158 5:=⟨fun b g cap p cur l w h0 hn hcm hcs hbk hg hx=>We0 b g cap l.length p cur l w h0 hn hcm hcs hbk hg hx,fun b p w hbk=>Wil b p w hbk,fun b g cap p w hc hbk=>Wez b g cap p w hc hbk,fun b g p cur w hbk hg=>Waa b g p cur w hbk hg⟩
end Go.SyP
