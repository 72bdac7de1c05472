/- Contracts of the library at this seat. -/
import Derived.Test.YticmlllaimjdcaaGreatG15zD
import Derived.Test.YticmlllaimjdcaaGreatSyX
import Derived.Test.YticmlllaimjdcaaGreatSyS
import Derived.Test.YticmlllaimjdcaaGreatSyU
import Derived.Shelf.Spec.SlicesInsertGrow
import Derived.Test.YticmlllaimjdcaaGreatG15zS
set_option linter.unusedVariables false
set_option linter.unusedSimpArgs false
namespace Go.SyP
open Go Go.Sy Go.Proofs Go.Lib Go.RowKit
def TI:Tab where
 info:=[(3,1,8,[.int .i64 0]),(39,2,16,[.int .i64 0,.int .i64 0]),(41,1,24,[.slice none 0 0]),(51,1,24,[.slice none 0 0]),(56,2,16,[.int .i64 0,.int .i64 0])]
 Qme:=[(3,false),(39,true),(41,false),(51,false),(56,true)]
 Qdr:=[(41,56),(51,39)]
 Qpa:=[]
theorem Qp3:Xb Tryz.prog TI:=⟨by kernel_rfl,by kernel_rfl,by kernel_rfl,by kernel_rfl,by kernel_rfl,by kernel_rfl,by kernel_rfl,by kernel_rfl,by kernel_rfl,by kernel_rfl,by kernel_rfl,by kernel_rfl⟩
theorem Wb8:Sy.Enters Tryz.prog 142:=Wp Tryz.func142 (by kernel_rfl) (by kernel_rfl)
theorem Wb9:Sy.Enters Tryz.prog 143:=Wp Tryz.func143 (by kernel_rfl) (by kernel_rfl)
theorem Wca:Sy.Enters Tryz.prog 144:=Wp Tryz.func144 (by kernel_rfl) (by kernel_rfl)
theorem Wci:Sy.Enters Tryz.prog 156:=Wp Tryz.func156 (by kernel_rfl) (by kernel_rfl)
theorem Qro {tg:Bool} (xs:List Qa) (hb:xs.length * 16<=140737488355328):
  Xz Tryz.prog 24 [] [.d (.sl tg xs.length (vec Qa.e Qa.z xs))] [.flat false 2 56 xs.length (vec Qa.e Qa.z xs)] (.own 0 2 0 xs.length):=by
 refine Xj Tryz.func24 rfl (nt:=8) rfl (lb rfl) fun X hP h0 hX=>?_
 have hT:Xb X.P TI:=hP▸Qp3
 have hf:X.P.funcs[24]? = some Tryz.f24:=hP▸Tryz.func24
 refine go hT 8 [0,3] (k':=Xc (Tryz.f24.body.getD .skip) [1,0,0,1] []) (st':=⟨8,[(0,.d (.sl tg xs.length (vec Qa.e Qa.z xs))),(3,.d (.sl tg xs.length (vec Qa.e Qa.z xs)))],[]⟩) (by kernel_rfl) ?_
 refine Weh (eq:=true) (n:=xs.length) (dst:=some 4) (k':=Xc (Tryz.f24.body.getD .skip) [1,0,0,2] []) hT [0,4] (st':=fun b=>⟨8,[(0,.d (.sl tg xs.length (vec Qa.e Qa.z xs))),(4,.d (.v (.bool b)))],[]⟩) (by kernel_rfl) (fun b=>by kernel_rfl) ?_
 intro b hbn
 cases b with
 | true=>
  have hx:xs=[]:=List.length_eq_zero_iff.1 (hbn rfl)
  subst hx
  refine go hT 6 [2] (k':=Xc (Tryz.f24.body.getD .skip) [1,0,1,0,1] []) (st':=⟨8,[(2,.d (.v (.slice none 0 0)))],[]⟩) (by kernel_rfl) ?_
  refine Qdj [2] 2 2 56 (vec Qa.e Qa.z []) (st':=⟨8,[(2,.own 0 2 0 0)],[.flat false 2 56 0 (vec Qa.e Qa.z [])]⟩) (by kernel_rfl) (by kernel_rfl) ?_
  exact Qjd hf hX (av:=.own 0 2 0 0) (by kernel_rfl) [0] (Qbu (by kernel_rfl)) (by decide) (by rw [h0];rfl) (by kernel_rfl) (ac (Qat Qa.nl) an) (.own _ _ _ _)
 | false=>
  refine go hT 5 [0] (k':=Xc (Tryz.f24.body.getD .skip) [1,1,0,0] []) (st':=⟨8,[(0,.d (.sl tg xs.length (vec Qa.e Qa.z xs)))],[]⟩) (by kernel_rfl) ?_
  refine Weg (e:=56) (s:=2) (dst:=some 5) (k':=Xc (Tryz.f24.body.getD .skip) [1,1,0,1] []) hT [0,5] (vec Qa.e Qa.z []) (by kernel_rfl) (st':=⟨8,[(0,.d (.sl tg xs.length (vec Qa.e Qa.z xs))),(5,.own 0 2 0 0)],[.flat false 2 56 0 (vec Qa.e Qa.z [])]⟩) (by kernel_rfl) ?_
  refine go hT 1 [5,6] (k':=Xc (Tryz.f24.body.getD .skip) [1,1,0,2] []) (st':=⟨8,[(5,.own 0 2 0 ([]:List Qa).length),(6,.d (.sl tg xs.length (vec Qa.e Qa.z xs)))],[.flat false 2 56 ([]:List Qa).length (vec Qa.e Qa.z [])]⟩) (by kernel_rfl) ?_
  refine Wbb (id:=0) (kk:=2) (by':=16) (t:=41) (e:=56) (z:=[.int .i64 0,.int .i64 0]) (dst:=some 7) (k':=Xc (Tryz.f24.body.getD .skip) [1,1,0,3] []) (x:=.d (.sl tg xs.length (vec Qa.e Qa.z xs))) hT Qa.e Qa.z [] xs [7] (by kernel_rfl) (by kernel_rfl) (.sl fun _ _=>rfl) (by kernel_rfl) (by kernel_rfl) (by kernel_rfl) (by kernel_rfl) (by simpa using hb) (by simp;omega) (st':=⟨8,[(7,.own 1 2 0 ([] ++ xs).length)],[.gone,.flat false 2 56 ([] ++ xs).length (vec Qa.e Qa.z ([] ++ xs))]⟩) (by kernel_rfl) ?_
  refine go hT 2 [2] (k':=Xc (Tryz.f24.body.getD .skip) [1,1,1] []) (st':=⟨8,[(2,.own 1 2 0 xs.length)],[.gone,.flat false 2 56 xs.length (vec Qa.e Qa.z xs)]⟩) (by kernel_rfl) ?_
  exact Qjd hf hX (av:=.own 1 2 0 xs.length) (by kernel_rfl) [1] (Qbu (by kernel_rfl)) (by decide) (by rw [h0];rfl) (by kernel_rfl) (ac (Qat Qa.nl) an) (.own _ _ _ _)
open Go.Sort in
theorem Wku {g:FuncId} (eg:Sy.Enters Tryz.prog g) (cf:Qb->Qb->Int) (hO:SWO (ltOf cf))
  (hs:∀ x y,Xz Tryz.prog g [] [.d (.agg (Qb.e x)),.d (.agg (Qb.e y))] [] (.d (.v (.int .i64 (cf x y))))) (xs:List Qb) (hb:xs.length * 16<=140737488355328):
  Xz Tryz.prog 143 [.flat false 2 39 xs.length (vec Qb.e Qb.z xs)] [.own 0 2 0 xs.length,.d (.fn g [])] [.flat false 2 39 xs.length (vec Qb.e Qb.z (Qai Qb.z cf xs))] (.Qn []):=
 Wdw Tryz.Whh Qb.z 2 Tryz.isAgg39 Tryz.sizeOf39 (fun x:Qb=>[.int .i64 x.Lo,.int .i64 x.Hi]) (fun _=>rfl) (fun x v hv=>by
  simp only [List.mem_cons,List.not_mem_nil,or_false] at hv
  rcases hv with rfl | rfl<;>rfl) Qb.e (fun _=>rfl) cf hO g eg (Wer (fun x v hv=>by
  simp only [List.mem_cons,List.not_mem_nil,or_false] at hv
  rcases hv with rfl | rfl<;>rfl) (fun _=>rfl) hs) (by omega)
def Wm0:List Item->Code
 | .code (.rangeFunc _ _ a _) :: _=>a
 | _=>.skip
def Wmk:List Item->Code
 | .code (.rangeFunc _ _ _ b) :: _=>b
 | _=>.skip
noncomputable def Qea:Code:=Wm0 (Xc (Tryz.f156.body.getD .skip) [1,0,1,0] [])
noncomputable def Qct:Code:=Wmk (Xc (Tryz.f156.body.getD .skip) [1,0,1,0] [])
def Wml:List Item->Code
 | _ :: _ :: .code c :: _=>c
 | _=>.skip
noncomputable def Wkw:Code:=Wml (Xc (Tryz.f156.body.getD .skip) [1,0,1,0] [])
theorem Wje (l:Nat) (xs:List Qb) (x:Qb) (hb:(xs.length+1) * 16<=140737488355328):
  Qqh Tryz.prog l [.loop l .ready 156 13 [2] [.ptr 1 0 0 0] #[7] Qea Qct,.box 51 [.own 2 2 0 xs.length],.flat false 2 39 xs.length (vec Qb.e Qb.z xs)] (.d (.agg (Qb.e x)))
   [.loop l .ready 156 13 [2] [.ptr 1 0 0 0] #[7] Qea Qct,.box 51 [.own 3 2 0 (xs ++ [x]).length],.gone,.flat false 2 39 (xs ++ [x]).length (vec Qb.e Qb.z (xs ++ [x]))]:=by
 refine Wdr (by decide) fun X hP h0 hX=>?_
 have hT:Xb X.P TI:=hP▸Qp3
 refine go hT 4 [2,5] (k':=[.beginRound,.code Qct]) (st':=⟨13,[(2,.ptr 1 0 0 0),(5,.ptr 3 0 0 0)],[.loop l .ready 156 13 [2] [.ptr 1 0 0 0] #[7] Qea Qct,.box 51 [.own 2 2 0 xs.length],.flat false 2 39 xs.length (vec Qb.e Qb.z xs),.box 39 [.i x.Lo,.i x.Hi]]⟩) (by kernel_rfl) ?_
 refine Wh2 (st':=⟨13,[(2,.ptr 1 0 0 0),(5,.ptr 3 0 0 0)],[.loop l .busy 156 13 [2] [.ptr 1 0 0 0] #[7] Qea Qct,.box 51 [.own 2 2 0 xs.length],.flat false 2 39 xs.length (vec Qb.e Qb.z xs),.box 39 [.i x.Lo,.i x.Hi]]⟩) 0 hX rfl rfl ?_
 refine go hT 5 [2,8,10] (k':=Xc Qct [0,3] []) (st':=⟨13,[(2,.ptr 1 0 0 0),(8,.own 2 2 0 xs.length),(10,.own 4 2 0 1)],[.loop l .busy 156 13 [2] [.ptr 1 0 0 0] #[7] Qea Qct,.box 51 [.own 2 2 0 xs.length],.flat false 2 39 xs.length (vec Qb.e Qb.z xs),.box 39 [.i x.Lo,.i x.Hi],.flat false 2 39 1 (fun j=>[Qb.e x].getD j [])]⟩) (by kernel_rfl) ?_
 refine Qcj (id:=2) (kk:=2) (by':=16) (t:=51) (e:=39) (z:=[.int .i64 0,.int .i64 0]) (dst:=some 11) (id2:=4) (e2:=39) (fz:=false) (k':=Xc Qct [0,4] []) hT Qb.e Qb.z xs x [2,11] (by kernel_rfl) (by kernel_rfl) (by kernel_rfl) (by kernel_rfl) (by kernel_rfl) (by kernel_rfl) (by kernel_rfl) hb (by omega)
  (st':=⟨13,[(2,.ptr 1 0 0 0),(11,.own 5 2 0 (xs ++ [x]).length)],[.loop l .busy 156 13 [2] [.ptr 1 0 0 0] #[7] Qea Qct,.box 51 [.own 2 2 0 xs.length],.gone,.box 39 [.i x.Lo,.i x.Hi],.flat false 2 39 1 (fun j=>[Qb.e x].getD j []),.flat false 2 39 (xs ++ [x]).length (vec Qb.e Qb.z (xs ++ [x]))]⟩) (by kernel_rfl) ?_
 refine go hT 3 [] (k':=[]) (st':=⟨13,[],[.loop l .busy 156 13 [2] [.ptr 1 0 0 0] #[7] Qea Qct,.box 51 [.own 5 2 0 (xs ++ [x]).length],.gone,.box 39 [.i x.Lo,.i x.Hi],.flat false 2 39 1 (fun j=>[Qb.e x].getD j []),.flat false 2 39 (xs ++ [x]).length (vec Qb.e Qb.z (xs ++ [x]))]⟩) (by kernel_rfl) ?_
 refine Qtx [] [0,1,2,5] (st':=⟨13,[],[.loop l .busy 156 13 [2] [.ptr 1 0 0 0] #[7] Qea Qct,.box 51 [.own 3 2 0 (xs ++ [x]).length],.gone,.flat false 2 39 (xs ++ [x]).length (vec Qb.e Qb.z (xs ++ [x]))]⟩) (by kernel_rfl) (by kernel_rfl) rfl (by decide) (by rw [h0];rfl) ?_
 exact Qzo 0 rfl rfl (ac (.loop (.cons (.ptr _ _ _ _) .nil)) (ac (.box (.cons (.own _ _ _ _) .nil)) (ac .gone (ac (Qat Qb.nl) an))))
theorem Whp {tg:Bool} (l:Nat) (xs:List Qb) (hb:xs.length * 16<=140737488355328):
  Xz Tryz.prog 144 [.loop l .ready 156 13 [2] [.ptr 1 0 0 0] #[7] Qea Qct,.box 51 [.own 2 2 0 0],.flat false 2 39 0 (vec Qb.e Qb.z [])] [.d (.v (.func (.yield l) #[] #[])),.d (.rop false 1 (fun _=>[.sl tg xs.length (vec Qb.e Qb.z  xs)]) 0 0)]
   [.loop l .ready 156 13 [2] [.ptr 1 0 0 0] #[7] Qea Qct,.box 51 [.own 3 2 0 xs.length],.gone,.flat false 2 39 xs.length (vec Qb.e Qb.z xs)] (.Qn []):=by
 refine Xj Tryz.func144 rfl (nt:=16) rfl (lb rfl) fun X hP h0 hX=>?_
 have hT:Xb X.P TI:=hP▸Qp3
 have hf:X.P.funcs[144]? = some Tryz.f144:=hP▸Tryz.func144
 refine go hT 8 [0,5,6,7] (k':=Xc (Tryz.f144.body.getD .skip) [1,0,0] []) (st':=⟨16,[(0,.d (.v (.func (.yield l) #[] #[]))),(5,.d (.sl tg xs.length (vec Qb.e Qb.z xs))),(6,.d (.v (.int .i64 (xs.length:Int)))),(7,.d (.v (.int .i64 0)))],[.loop l .ready 156 13 [2] [.ptr 1 0 0 0] #[7] Qea Qct,.box 51 [.own 2 2 0 0],.flat false 2 39 0 (vec Qb.e Qb.z [])]⟩) (by kernel_rfl) ?_
 refine Qgr 2 (r:=.flat false 2 39 0 (vec Qb.e Qb.z [])) rfl rfl (st':=⟨16,[(0,.d (.v (.func (.yield l) #[] #[]))),(5,.d (.sl tg xs.length (vec Qb.e Qb.z xs))),(6,.d (.v (.int .i64 (xs.length:Int)))),(7,.d (.v (.int .i64 0)))],[.loop l .ready 156 13 [2] [.ptr 1 0 0 0] #[7] Qea Qct,.box 51 [.own 3 2 0 0],.gone,.flat false 2 39 0 (vec Qb.e Qb.z [])]⟩) (by kernel_rfl) (by kernel_rfl) rfl ?_
 have L:∀ m i:Nat,i+m=xs.length->AK X 144 (Xc (Tryz.f144.body.getD .skip) [1,0,0] []) (Yc X [.loop l .ready 156 13 [2] [.ptr 1 0 0 0] #[7] Qea Qct,.box 51 [.own 3 2 0 xs.length],.gone,.flat false 2 39 xs.length (vec Qb.e Qb.z xs)] (.Qn [])) ⟨16,[(0,.d (.v (.func (.yield l) #[] #[]))),(5,.d (.sl tg xs.length (vec Qb.e Qb.z xs))),(6,.d (.v (.int .i64 (xs.length:Int)))),(7,.d (.v (.int .i64 (i:Int))))],[.loop l .ready 156 13 [2] [.ptr 1 0 0 0] #[7] Qea Qct,.box 51 [.own 3 2 0 (xs.take i).length],.gone,.flat false 2 39 (xs.take i).length (vec Qb.e Qb.z (xs.take i))]⟩:=by
  intro m
  induction m with
  | zero=>
   intro i hi
   refine go hT 5 [0,5,6,7,8] (k':=Xc (Tryz.f144.body.getD .skip) [1,0,0,1,0] []) (st':=⟨16,[(0,.d (.v (.func (.yield l) #[] #[]))),(5,.d (.sl tg xs.length (vec Qb.e Qb.z xs))),(6,.d (.v (.int .i64 (xs.length:Int)))),(7,.d (.v (.int .i64 (i:Int)))),(8,.d (.v (.bool (decide ((i:Int) < (xs.length:Int))))))],[.loop l .ready 156 13 [2] [.ptr 1 0 0 0] #[7] Qea Qct,.box 51 [.own 3 2 0 (xs.take i).length],.gone,.flat false 2 39 (xs.take i).length (vec Qb.e Qb.z (xs.take i))]⟩) (by kernel_rfl) ?_
   rw [decide_eq_false (show ¬ (i:Int) < (xs.length:Int) by omega)]
   have hx:xs.take i=xs:=List.take_of_length_le (by omega)
   rw [hx]
   refine go hT 2 [] (k':=[]) (st':=⟨16,[],[.loop l .ready 156 13 [2] [.ptr 1 0 0 0] #[7] Qea Qct,.box 51 [.own 3 2 0 xs.length],.gone,.flat false 2 39 xs.length (vec Qb.e Qb.z xs)]⟩) (by kernel_rfl) ?_
   exact Qx1 hf hX (av:=.Qn []) (by kernel_rfl) [0,1,2,3] (Qbu (by kernel_rfl)) (by decide) (by rw [h0];rfl) (by kernel_rfl)
    (ac (.loop (.cons (.ptr _ _ _ _) .nil)) (ac (.box (.cons (.own _ _ _ _) .nil)) (ac .gone (ac (Qat Qb.nl) an)))) (.Qn .nil)
  | succ m ih=>
   intro i hi
   have hlen:(xs.take i).length=i:=by rw [List.length_take];omega
   refine go hT 5 [0,5,6,7,8] (k':=Xc (Tryz.f144.body.getD .skip) [1,0,0,1,0] []) (st':=⟨16,[(0,.d (.v (.func (.yield l) #[] #[]))),(5,.d (.sl tg xs.length (vec Qb.e Qb.z xs))),(6,.d (.v (.int .i64 (xs.length:Int)))),(7,.d (.v (.int .i64 (i:Int)))),(8,.d (.v (.bool (decide ((i:Int) < (xs.length:Int))))))],[.loop l .ready 156 13 [2] [.ptr 1 0 0 0] #[7] Qea Qct,.box 51 [.own 3 2 0 (xs.take i).length],.gone,.flat false 2 39 (xs.take i).length (vec Qb.e Qb.z (xs.take i))]⟩) (by kernel_rfl) ?_
   rw [decide_eq_true (show (i:Int) < (xs.length:Int) by omega)]
   refine go hT 6 [0,5,6,7] (k':=Xc (Tryz.f144.body.getD .skip) [1,0,0,1,1,0,0,0,0] []) (st':=⟨16,[(0,.d (.v (.func (.yield l) #[] #[]))),(5,.d (.sl tg xs.length (vec Qb.e Qb.z xs))),(6,.d (.v (.int .i64 (xs.length:Int)))),(7,.d (.v (.int .i64 (i:Int))))],[.loop l .ready 156 13 [2] [.ptr 1 0 0 0] #[7] Qea Qct,.box 51 [.own 3 2 0 (xs.take i).length],.gone,.flat false 2 39 (xs.take i).length (vec Qb.e Qb.z (xs.take i))]⟩) (by kernel_rfl) ?_
   refine Qjb hT [0,5,6,7,9] (i:=(i:Int)) (n:=(xs.length:Int)) (by omega) (by omega) (k':=Xc (Tryz.f144.body.getD .skip) [1,0,0,1,1,0,0,0,1] []) (st':=⟨16,[(0,.d (.v (.func (.yield l) #[] #[]))),(5,.d (.sl tg xs.length (vec Qb.e Qb.z xs))),(6,.d (.v (.int .i64 (xs.length:Int)))),(7,.d (.v (.int .i64 (i:Int)))),(9,.d (.rop tg xs.length (vec Qb.e Qb.z  xs) (i:Int).toNat 0))],[.loop l .ready 156 13 [2] [.ptr 1 0 0 0] #[7] Qea Qct,.box 51 [.own 3 2 0 (xs.take i).length],.gone,.flat false 2 39 (xs.take i).length (vec Qb.e Qb.z (xs.take i))]⟩) (by kernel_rfl) ?_
   refine go hT 8 [0,5,6,7,11,12] (k':=Xc (Tryz.f144.body.getD .skip) [1,0,0,1,1,0,0,1,0,2] []) (st':=⟨16,[(0,.d (.v (.func (.yield l) #[] #[]))),(5,.d (.sl tg xs.length (vec Qb.e Qb.z xs))),(6,.d (.v (.int .i64 (xs.length:Int)))),(7,.d (.v (.int .i64 (i:Int)))),(11,.d (.v (.func (.yield l) #[] #[]))),(12,.d (.agg (Qb.e (xs.getD (i:Int).toNat Qb.z))))],[.loop l .ready 156 13 [2] [.ptr 1 0 0 0] #[7] Qea Qct,.box 51 [.own 3 2 0 (xs.take i).length],.gone,.flat false 2 39 (xs.take i).length (vec Qb.e Qb.z (xs.take i)),.box 39 [.i ((xs.getD (i:Int).toNat Qb.z).Lo),.i ((xs.getD (i:Int).toNat Qb.z).Hi)]]⟩) (by kernel_rfl) ?_
   refine Wh8 (av:=.d (.agg (Qb.e (xs.getD (i:Int).toNat Qb.z)))) (dst:=some 13) (k':=Xc (Tryz.f144.body.getD .skip) [1,0,0,1,1,0,0,1,0,3] []) [0,5,6,7,13] [0,1,3] hP (Wje l (xs.take i) (xs.getD (i:Int).toNat Qb.z) (by rw [hlen];omega)) (by kernel_rfl) (Qey rfl rfl rfl (by decide)) (.cons (Wj _) .nil)
    (st':=⟨16,[(0,.d (.v (.func (.yield l) #[] #[]))),(5,.d (.sl tg xs.length (vec Qb.e Qb.z xs))),(6,.d (.v (.int .i64 (xs.length:Int)))),(7,.d (.v (.int .i64 (i:Int)))),(13,.d (.v (.bool true)))],[.loop l .ready 156 13 [2] [.ptr 1 0 0 0] #[7] Qea Qct,.box 51 [.own 5 2 0 (xs.take i ++ [(xs.getD (i:Int).toNat Qb.z)]).length],.gone,.gone,.box 39 [.i ((xs.getD (i:Int).toNat Qb.z).Lo),.i ((xs.getD (i:Int).toNat Qb.z).Hi)],.flat false 2 39 (xs.take i ++ [(xs.getD (i:Int).toNat Qb.z)]).length (vec Qb.e Qb.z (xs.take i ++ [(xs.getD (i:Int).toNat Qb.z)]))]⟩) (by kernel_rfl) ?_
   refine go hT 10 [0,5,6,7] (k':=Xc (Tryz.f144.body.getD .skip) [1,0,0] []) (st':=⟨16,[(0,.d (.v (.func (.yield l) #[] #[]))),(5,.d (.sl tg xs.length (vec Qb.e Qb.z xs))),(6,.d (.v (.int .i64 (xs.length:Int)))),(7,.d (.v (.int .i64 (IntKind.wrap .i64 ((i:Int)+1)))))],[.loop l .ready 156 13 [2] [.ptr 1 0 0 0] #[7] Qea Qct,.box 51 [.own 5 2 0 (xs.take i ++ [(xs.getD (i:Int).toNat Qb.z)]).length],.gone,.gone,.box 39 [.i ((xs.getD (i:Int).toNat Qb.z).Lo),.i ((xs.getD (i:Int).toNat Qb.z).Hi)],.flat false 2 39 (xs.take i ++ [(xs.getD (i:Int).toNat Qb.z)]).length (vec Qb.e Qb.z (xs.take i ++ [(xs.getD (i:Int).toNat Qb.z)]))]⟩) (by kernel_rfl) ?_
   have hw:IntKind.wrap .i64 ((i:Int)+1)=((i+1:Nat):Int):=by simp [IntKind.wrap,IntKind.bits,IntKind.signed];omega
   have ht:xs.take i ++ [(xs.getD (i:Int).toNat Qb.z)]=xs.take (i+1):=by
    rw [List.take_add_one]
    simp [show i < xs.length by omega]
   rw [hw,ht]
   refine Qtx [0,5,6,7] [0,1,2,5] (st':=⟨16,[(0,.d (.v (.func (.yield l) #[] #[]))),(5,.d (.sl tg xs.length (vec Qb.e Qb.z xs))),(6,.d (.v (.int .i64 (xs.length:Int)))),(7,.d (.v (.int .i64 ((i+1:Nat):Int))))],[.loop l .ready 156 13 [2] [.ptr 1 0 0 0] #[7] Qea Qct,.box 51 [.own 3 2 0 (xs.take (i+1)).length],.gone,.flat false 2 39 (xs.take (i+1)).length (vec Qb.e Qb.z (xs.take (i+1)))]⟩) (by kernel_rfl) (by kernel_rfl) rfl (by decide) (by rw [h0];rfl) ?_
   exact ih (i+1) (by omega)
 exact L xs.length 0 (by omega)
theorem Qx6 {tg:Bool} (xs:List Qb) (hb:xs.length * 16<=140737488355328):
  Xz Tryz.prog 156 [] [.d (.v (.slice none 0 0)),.d (.fn 144 [.rop false 1 (fun _=>[.sl tg xs.length (vec Qb.e Qb.z xs)]) 0 0])] [.flat false 2 39 xs.length (vec Qb.e Qb.z  xs)] (.own 0 2 0 xs.length):=by
 refine Xj Tryz.func156 rfl (nt:=13) rfl (lb rfl) fun X hP h0 hX=>?_
 have hT:Xb X.P TI:=hP▸Qp3
 have hf:X.P.funcs[156]? = some Tryz.f156:=hP▸Tryz.func156
 refine Qdj [0,1] 0 2 39 (vec Qb.e Qb.z []) (st':=⟨13,[(0,.own 0 2 0 0),(1,.d (.fn 144 [.rop false 1 (fun _=>[.sl tg xs.length (vec Qb.e Qb.z xs)]) 0 0]))],[.flat false 2 39 0 (vec Qb.e Qb.z [])]⟩) (by kernel_rfl) (by kernel_rfl) ?_
 refine go hT 11 [2,6] (k':=Xc (Tryz.f156.body.getD .skip) [1,0,1,0] []) (st':=⟨13,[(2,.ptr 1 0 0 0),(6,.d (.fn 144 [.rop false 1 (fun _=>[.sl tg xs.length (vec Qb.e Qb.z xs)]) 0 0]))],[.flat false 2 39 0 (vec Qb.e Qb.z []),.box 51 [.own 0 2 0 0]]⟩) (by kernel_rfl) ?_
 refine Qtx [2,6] [1,0] (st':=⟨13,[(2,.ptr 0 0 0 0),(6,.d (.fn 144 [.rop false 1 (fun _=>[.sl tg xs.length (vec Qb.e Qb.z xs)]) 0 0]))],[.box 51 [.own 1 2 0 0],.flat false 2 39 0 (vec Qb.e Qb.z [])]⟩) (by kernel_rfl) (by kernel_rfl) rfl (by decide) (by rw [h0];rfl) ?_
 refine Qx3 (P:=Tryz.prog) (f:=156) (g:=144) (fop:=.tmp 6) (p:=7) (asg:=Qea) (body:=Qct) (k:=[.inBlock 0,.code (Wkw)]) (caps:=[.rop false 1 (fun _=>[.sl tg xs.length (vec Qb.e Qb.z xs)]) 0 0]) (ret:=.Qn []) [2] [.ptr 0 0 0 0] [.ptr 0 0 0 0] [3,0,1]
  (fun l=>[.loop l .ready 156 13 [2] [.ptr 1 0 0 0] #[7] Qea Qct,.box 51 [.own 2 2 0 0],.flat false 2 39 0 (vec Qb.e Qb.z [])]) (fun l=>[.loop l .ready 156 13 [2] [.ptr 1 0 0 0] #[7] Qea Qct,.box 51 [.own 3 2 0 xs.length],.gone,.flat false 2 39 xs.length (vec Qb.e Qb.z  xs)]) (fun l=>[.d (.v (.func (.yield l) #[] #[])),.d (.rop false 1 (fun _=>[.sl tg xs.length (vec Qb.e Qb.z xs)]) 0 0)])
  hP hX (by kernel_rfl) Wca (by kernel_rfl) (fun l=>Whp l xs hb) (fun D=>Qey rfl rfl rfl (by decide)) (fun D=>.cons (Wj _) (.cons (Wj _) .nil)) (fun D=>by kernel_rfl) fun D=>?_
 have hT2:Xb (X.mark D).P TI:=hT
 refine go hT2 6 [4] (k':=[.code .ret]) (st':=⟨13,[(4,.own 4 2 0 xs.length)],[.box 51 [.own 4 2 0 xs.length],.gone,.dfr D,.gone,.flat false 2 39 xs.length (vec Qb.e Qb.z  xs)]⟩) (by kernel_rfl) ?_
 have fin:=Wkc (X:=X.mark D) (f:=156) (k:=[]) (ret:=.own 0 2 0 xs.length) (Wv:=[.flat false 2 39 xs.length (vec Qb.e Qb.z xs)]) (st:=⟨13,[(4,.own 4 2 0 xs.length)],[.box 51 [.own 4 2 0 xs.length],.gone,.dfr D,.gone,.flat false 2 39 xs.length (vec Qb.e Qb.z xs)]⟩) 2 hf ⟨rfl,rfl⟩ (by kernel_rfl) (av:=.own 4 2 0 xs.length) (by kernel_rfl) [4] (by decide) (Qbu (by kernel_rfl)) (by decide) (by have h1:(X.mark D).μ0.length=0:=h0;rw [h1];rfl) (by kernel_rfl) (ac (Qat Qb.nl) an) (.own _ _ _ _)
 rw [Wdb D hX] at fin
 exact fin
theorem Wbg {tg:Bool} (xs:List Qb) (hb:xs.length * 16<=140737488355328):
  Xz Tryz.prog 142 [] [.d (.fn 144 [.rop false 1 (fun _=>[.sl tg xs.length (vec Qb.e Qb.z xs)]) 0 0])] [.flat false 2 39 xs.length (vec Qb.e Qb.z  xs)] (.own 0 2 0 xs.length):=by
 refine Xj Tryz.func142 rfl (nt:=5) rfl (lb rfl) fun X hP h0 hX=>?_
 have hT:Xb X.P TI:=hP▸Qp3
 have hf:X.P.funcs[142]? = some Tryz.f142:=hP▸Tryz.func142
 refine go hT 7 [3] (k':=Xc (Tryz.f142.body.getD .skip) [1,0,1] []) (st':=⟨5,[(3,.d (.fn 144 [.rop false 1 (fun _=>[.sl tg xs.length (vec Qb.e Qb.z xs)]) 0 0]))],[]⟩) (by kernel_rfl) ?_
 refine Jj (Zk:=[.d (.v (.slice none 0 0)),.d (.fn 144 [.rop false 1 (fun _=>[.sl tg xs.length (vec Qb.e Qb.z xs)]) 0 0])]) (dst:=some 4) (k':=Xc (Tryz.f142.body.getD .skip) [1,0,2] []) [4] [] hP Wci (Qx6 (tg:=tg) xs hb) (by kernel_rfl) (Jy _) (.cons (Wj _) (.cons (Wj _) .nil))
  (st':=⟨5,[(4,.own 0 2 0 xs.length)],[.flat false 2 39 xs.length (vec Qb.e Qb.z  xs)]⟩) (by kernel_rfl) ?_
 refine go hT 2 [2] (k':=Xc (Tryz.f142.body.getD .skip) [1,1] []) (st':=⟨5,[(2,.own 0 2 0 xs.length)],[.flat false 2 39 xs.length (vec Qb.e Qb.z  xs)]⟩) (by kernel_rfl) ?_
 exact Qjd hf hX (av:=.own 0 2 0 xs.length) (by kernel_rfl) [0] (Qbu (by kernel_rfl)) (by decide) (by rw [h0];rfl) (by kernel_rfl) (ac (Qat Qb.nl) an) (.own _ _ _ _)
open Go.Sort in
theorem Qvk {tg:Bool} {g:FuncId} (eg:Sy.Enters Tryz.prog g) (cf:Qb->Qb->Int) (hO:SWO (ltOf cf))
  (hs:∀ x y,Xz Tryz.prog g [] [.d (.agg (Qb.e x)),.d (.agg (Qb.e y))] [] (.d (.v (.int .i64 (cf x y))))) (xs:List Qb) (hb:xs.length * 16<=140737488355328):
  Xz Tryz.prog 115 [] [.d (.fn 144 [.rop false 1 (fun _=>[.sl tg xs.length (vec Qb.e Qb.z xs)]) 0 0]),.d (.fn g [])] [.flat false 2 39 xs.length (vec Qb.e Qb.z (Qai Qb.z cf xs))] (.own 0 2 0 xs.length):=by
 refine Xj Tryz.func115 rfl (nt:=12) rfl (lb rfl) fun X hP h0 hX=>?_
 have hT:Xb X.P TI:=hP▸Qp3
 have hf:X.P.funcs[115]? = some Tryz.f115:=hP▸Tryz.func115
 refine go hT 7 [1,6] (k':=Xc (Tryz.f115.body.getD .skip) [1,0,1] []) (st':=⟨12,[(1,.d (.fn g [])),(6,.d (.fn 144 [.rop false 1 (fun _=>[.sl tg xs.length (vec Qb.e Qb.z xs)]) 0 0]))],[]⟩) (by kernel_rfl) ?_
 refine Jj (Zk:=[.d (.fn 144 [.rop false 1 (fun _=>[.sl tg xs.length (vec Qb.e Qb.z xs)]) 0 0])]) (dst:=some 7) (k':=Xc (Tryz.f115.body.getD .skip) [1,0,2] []) [1,7] [] hP Wb8 (Wbg (tg:=tg) xs hb) (by kernel_rfl) (Jy _) (.cons (Wj _) .nil)
  (st':=⟨12,[(1,.d (.fn g [])),(7,.own 0 2 0 xs.length)],[.flat false 2 39 xs.length (vec Qb.e Qb.z xs)]⟩) (by kernel_rfl) ?_
 refine go hT 6 [5,8,9] (k':=Xc (Tryz.f115.body.getD .skip) [1,1,0,2] []) (st':=⟨12,[(5,.own 0 2 0 xs.length),(8,.own 0 2 0 xs.length),(9,.d (.fn g []))],[.flat false 2 39 xs.length (vec Qb.e Qb.z xs)]⟩) (by kernel_rfl) ?_
 refine Jj (Zk:=[.own 0 2 0 xs.length,.d (.fn g [])]) (dst:=some 10) (k':=Xc (Tryz.f115.body.getD .skip) [1,1,0,3] []) [5] [0] hP Wb9 (Wku eg cf hO hs xs hb) (by kernel_rfl) (Qev rfl rfl) (.cons (.same (.own 0 2 0 xs.length)) (.cons (Wj _) .nil))
  (st':=⟨12,[(5,.own 0 2 0 xs.length)],[.flat false 2 39 xs.length (vec Qb.e Qb.z (Qai Qb.z cf xs))]⟩) (by kernel_rfl) ?_
 refine go hT 6 [4] (k':=Xc (Tryz.f115.body.getD .skip) [1,1,1,1] []) (st':=⟨12,[(4,.own 0 2 0 xs.length)],[.flat false 2 39 xs.length (vec Qb.e Qb.z (Qai Qb.z cf xs))]⟩) (by kernel_rfl) ?_
 exact Qjd hf hX (av:=.own 0 2 0 xs.length) (by kernel_rfl) [0] (Qbu (by kernel_rfl)) (by decide) (by rw [h0];rfl) (by kernel_rfl) (ac (Qat Qb.nl) an) (.own _ _ _ _)
open Go.Sort in
theorem Qxb {tg:Bool} {g:FuncId} (eg:Sy.Enters Tryz.prog g) (cf:Qb->Qb->Int) (hO:SWO (ltOf cf))
  (hs:∀ x y,Xz Tryz.prog g [] [.d (.agg (Qb.e x)),.d (.agg (Qb.e y))] [] (.d (.v (.int .i64 (cf x y))))) (xs:List Qb) (hb:xs.length * 16<=140737488355328):
  Xz Tryz.prog 115 [] [.d (.fn 144 [.rop false 1 (fun _=>[.sl tg xs.length (vec Qb.e Qb.z xs)]) 0 0]),.d (.fn g [])] [.flat false 2 39 (Qai Qb.z cf xs).length (vec Qb.e Qb.z (Qai Qb.z cf xs))] (.own 0 2 0 (Qai Qb.z cf xs).length):=by
 have h:=Qvk (tg:=tg) eg cf hO hs xs hb
 have:∀ n,n=xs.length->Xz Tryz.prog 115 [] [.d (.fn 144 [.rop false 1 (fun _=>[.sl tg xs.length (vec Qb.e Qb.z xs)]) 0 0]),.d (.fn g [])] [.flat false 2 39 n (vec Qb.e Qb.z (Qai Qb.z cf xs))] (.own 0 2 0 n):=fun n hn=>by
  subst hn
  exact h
 exact this _ (Qla _ hO xs)
theorem Whn (xs:List Qb):
  Xz Tryz.prog 116 [] [.d (.sl true xs.length (vec Qb.e Qb.z xs))] [.box 51 [.d (.sl true xs.length (vec Qb.e Qb.z xs))]] (.fn 144 [.ptr 0 0 0 0]):=by
 refine Xj Tryz.func116 rfl (nt:=4) rfl (lb rfl) fun X hP h0 hX=>?_
 have hT:Xb X.P TI:=hP▸Qp3
 have hf:X.P.funcs[116]? = some Tryz.f116:=hP▸Tryz.func116
 refine go hT 10 [2] (k':=Xc (Tryz.f116.body.getD .skip) [1,1] []) (st':=⟨4,[(2,.fn 144 [.ptr 0 0 0 0])],[.box 51 [.d (.sl true xs.length (vec Qb.e Qb.z xs))]]⟩) (by kernel_rfl) ?_
 exact Qjd hf hX (av:=.fn 144 [.ptr 0 0 0 0]) (by kernel_rfl) [0] (Qbu (by kernel_rfl)) (by decide) (by rw [h0];rfl) (by kernel_rfl) (ac (.box (.cons (.d (.sl fun _ _=>Qb.nl _)) .nil)) an) (.fn (.cons (.ptr _ _ _ _) .nil))
theorem Qo0:Tryz.prog.underlying 41=some (.slice 56):=by kernel_rfl
theorem Wma:Tryz.prog.underlying 3=some (.int .i64):=by kernel_rfl
theorem Qur:(Tryz.prog.info? 56).map (·.size)=some 2:=by kernel_rfl
set_option maxHeartbeats 4000000 in
set_option maxRecDepth 100000 in
theorem Qyt (b n c i vb vc:Nat) (A B R V:List Value) (VS:Array Value) (w:World) (hi:i < n) (Qlz:n+1<=c) (hc63:c<=9223372036854775807) (hvb:vb≠b)
  (hb:w.heap[b]? = some (.cells (A ++ B ++ R).toArray 56 (0,0))) (hv:w.heap[vb]? = some (.cells VS 56 (0,0))) (hA:A.length=i * 2) (hB:B.length=(n - i) * 2) (hR:2<=R.length) (hV:V.length=2)
  (hVS:∀ (j:Nat) v,V[j]? = some v->VS[j]? = some v) (h1b:∀ v∈B,v.oneCell'=true) (h1v:∀ v∈V,v.oneCell'=true):
  Calls Tryz.prog 129 #[.slice (some ⟨b,0,none⟩) n c,.int .i64 i,.slice (some ⟨vb,0,none⟩) 1 vc] w fun e w'=>
   e=.returned (.slice (some ⟨b,0,none⟩) (n+1) c)/\w'=(w.drew.setRow b (A ++ (B ++ R).take 2 ++ B ++ R.drop 2).toArray).setRow b (A ++ V ++ B ++ R.drop 2).toArray:=by
 have hz2:¬ ((i:Int)=(n:Int)):=by omega
 have hov:∀ lb cb,(callFunc 153 #[.slice (some ⟨vb,0,none⟩) 1 vc,.slice (some ⟨b,(i+1) * 2,none⟩) lb cb]).run Tryz.prog w=.ok (.value (.bool false)) w:=fun lb cb=>by
  rw [run_callFunc_extern Tryz.func153 (by kernel_rfl) (by kernel_rfl) (by kernel_rfl) (e:=Extern.SlicesOverlaps.overlaps #[41,41] #[4]) (by kernel_rfl),
   Lib.run_overlaps_apart w 41 4 56 Qo0 2 (fun w=>by kernel_rfl) ⟨vb,0,none⟩ ⟨b,(i+1) * 2,none⟩ 1 vc lb cb hvb 56 56 VS.size (A ++ B ++ R).toArray.size (by simp only [World.shape?,hv]) (by simp only [World.shape?,hb]) (by simp only [List.size_toArray,List.length_append];omega) (by simp only [World.frozen?,hv];simp) (by simp only [World.frozen?,hv];simp)]
  rfl
 have hcp1:∀ ty dc sc,(Builtin.copy_ #[41,41] ty #[.slice (some ⟨b,(i+1) * 2,none⟩) (n - i) dc,.slice (some ⟨b,i * 2,none⟩) (n+1 - i) sc]).run Tryz.prog w.drew=.ok (goInt (n - i:Nat)) (w.drew.setRow b (A ++ (B ++ R).take 2 ++ B ++ R.drop 2).toArray):=fun ty dc sc=>by
  have:=Wkh (sT:=41) Qo0 Qur w.drew b 56 A B R (i * 2) (n - i) hA hB hR hb h1b ty (n - i) dc (n+1 - i) sc (by show _=min _ _;omega)
  rwa [show i * 2+2=(i+1) * 2 by omega] at this
 obtain ⟨W1,hW1⟩:∃ W1,W1=w.drew.setRow b (A ++ (B ++ R).take 2 ++ B ++ R.drop 2).toArray:=⟨_,rfl⟩
 have hb1:W1.heap[b]? = some (.cells (A ++ (B ++ R).take 2 ++ (B ++ R.drop 2)).toArray 56 (0,0)):=by
  rw [hW1]
  have:=setRow_heap w.drew b _ (A ++ (B ++ R).take 2 ++ B ++ R.drop 2).toArray _ _ hb
  rw [this]
  simp only [List.append_assoc]
 have hv1:W1.heap[vb]? = some (.cells VS 56 (0,0)):=by
  rw [hW1,setRow_other _ _ _ _ hvb]
  exact hv
 have hcp2:∀ (W:World),W.heap=W1.heap->∀ ty dc,(Builtin.copy_ #[41,41] ty #[.slice (some ⟨b,i * 2,none⟩) (n+1 - i) dc,.slice (some ⟨vb,0,none⟩) 1 vc]).run Tryz.prog W=.ok (goInt 1) (W.setRow b (A ++ V ++ B ++ R.drop 2).toArray):=fun W hW ty dc=>by
  have:=Qqq (sT:=41) Qo0 Qur W b vb 56 56 A ((B ++ R).take 2) (B ++ R.drop 2) VS V (i * 2) 0 1 hA (by simp;omega) (by omega) (by rw [hW];exact hb1) (by rw [hW];exact hv1) (fun j v hj=>by rw [Nat.zero_add];exact hVS j v hj) h1v ty (n+1 - i) dc 1 vc (by show _=min _ _;omega)
  rw [this]
  simp only [List.append_assoc,goInt]
  rfl
 rw [<- hW1] at hcp1
 have hg1:goInt (1:Nat)=.int .i64 1:=rfl
 have hw1:IntKind.i64.wrap ((i:Int)+1)=(i:Int)+1:=by rw [IntKind.wrap_i64];omega
 have hbz:(0:Int)<=(i:Int)+1:=by omega
 have mixed:Tryz.prog.follows Departure.mixedOrders=true:=by kernel_rfl
 have hbn:(i:Int)<=(n:Int)+1:=by omega
 have hin:i<=n:=by omega
 have hb2:¬ (c=i+1):=by omega
 have hb4:¬ (c=i):=by omega
 rw [<- hW1]
 go_enter Tryz.func129,Tryz.ntmps129
 go_wp2_with (simp only [hov])
 go_region_law_o (refine step_copy_runI rfl _ _ 41 41 rfl _ _ (by simp [Act.eval,Act.put]) (by simp [Act.eval,Act.put]) (hcp1 _ _ _) ?_)
 go_wp2_with (at_builtin;refine wpList_copy_runI _ rfl _ _ 41 41 rfl _ _ rfl rfl (hcp2 _ (by first | rfl | (rw [hW1];rfl)) _ _) ?_)
 go_ret
 exact ⟨rfl,by rw [hW1];simp only [List.append_assoc]⟩
set_option maxHeartbeats 4000000 in
set_option maxRecDepth 100000 in
theorem Wc0 (base:Option Addr) (n c vb vc:Nat) (w w':World) (v':Value) (hnc:n<=c) (hc63:c<=9223372036854775807) (Wit:base=none->n=0/\c=0)
  (hr:(Builtin.append_ #[41,41] 41 #[.slice base n c,.slice (some ⟨vb,0,none⟩) 1 vc]).run Tryz.prog w=.ok v' w'):
  Calls Tryz.prog 129 #[.slice base n c,.int .i64 n,.slice (some ⟨vb,0,none⟩) 1 vc] w fun e w2=>e=.returned v'/\w2=w':=by
 cases base with
 | none=>
  obtain ⟨rfl,rfl⟩:=Wit rfl
  go_enter Tryz.func129,Tryz.ntmps129
  go_wp2_with (at_builtin;refine Lib.wpList_append_run _ rfl _ _ _ _ rfl _ _ rfl rfl _ _ hr ?_)
  all_goals (go_ret;exact ⟨rfl,rfl⟩)
 | some a=>
  go_enter Tryz.func129,Tryz.ntmps129
  go_wp2_with (at_builtin;refine Lib.wpList_append_run _ rfl _ _ _ _ rfl _ _ rfl rfl _ _ hr ?_)
  all_goals (go_ret;exact ⟨rfl,rfl⟩)
set_option maxHeartbeats 4000000 in
set_option maxRecDepth 100000 in
theorem Qzs (b n c i vb vc:Nat) (A B R V:List Value) (VS:Array Value) (w:World) (hi:i < n) (hnc:n<=c) (Qlz:c < n+1) (hbig:(n+1) * 16<=140737488355328) (hvb:vb≠b)
  (hb:w.heap[b]? = some (.cells (A ++ B ++ R).toArray 56 (0,0))) (hv:w.heap[vb]? = some (.cells VS 56 (0,0))) (hA:A.length=i * 2) (hB:B.length=(n - i) * 2) (hV:V.length=2)
  (hVS:∀ (j:Nat) v,V[j]? = some v->VS[j]? = some v) (h1b:∀ v∈B,v.oneCell'=true) (h1v:∀ v∈V,v.oneCell'=true):
  Calls Tryz.prog 129 #[.slice (some ⟨b,0,none⟩) n c,.int .i64 i,.slice (some ⟨vb,0,none⟩) 1 vc] w fun e w'=>
   e=.returned (.slice (some ⟨w.heap.size,0,none⟩) (n+1) (grownCap w (n+1) c 56))/\∃ Z:List Value,Z.length=(grownCap w (n+1) c 56 - (n+1)) * 2/\w'=(w.drew.alloc (.cells (A ++ V ++ B ++ Z).toArray 56)).drew:=by
 obtain ⟨i0,hi0,hs0,hb0,hz0⟩:=Qp3.infoAt (show TI.info.lookup 56=some (2,16,[.int .i64 0,.int .i64 0]) from rfl)
 obtain ⟨zv,hzv,hzc⟩:=Option.map_eq_some_iff.1 hz0
 have hzs:zv.cells.size=2:=by rw [hzc];rfl
 have mixed:Tryz.prog.follows Departure.mixedOrders=true:=by kernel_rfl
 have hz2:¬ ((i:Int)=(n:Int)):=by omega
 have hz3:(c:Int) < (n:Int)+1:=by omega
 have hbw:b < w.heap.size:=(Array.getElem?_eq_some_iff.1 hb).1
 have hvw:vb < w.heap.size:=(Array.getElem?_eq_some_iff.1 hv).1
 have hold:(Builtin.firstCells i0.size i (.slice (some ⟨b,0,none⟩) i c)).run Tryz.prog w.drew=.ok A.toArray w.drew:=by
  rw [hs0]
  exact run_firstCells_some w.drew 2 i ⟨b,0,none⟩ i c A hA (fun j v hj=>by
   rw [Addr.add_lit,Nat.zero_add]
   have:w.drew.heap[b]? = some (.cells (A ++ B ++ R).toArray 56 (0,0)):=hb
   simp only [World.cell?,this,List.getElem?_toArray,List.append_assoc]
   rw [List.getElem?_append_left (List.getElem?_eq_some_iff.1 hj).1,hj]
   rfl)
 obtain ⟨G,hG⟩:∃ G,G=grownCap w (n+1) c 56:=⟨_,rfl⟩
 have hGn:n+1<=G:=by rw [hG];exact grownCap_ge w _ _ _
 have hG63:G<=9223372036854775807:=by
  have:=grownCap_le_maxLen w (n+1) c 56 (by unfold maxLen;omega)
  rw [<- hG] at this
  unfold maxLen at this
  omega
 obtain ⟨ZZ,hZl,hZZ⟩:∃ ZZ:List Value,ZZ.length=(G - i) * 2/\A.toArray ++ Builtin.zeroCells zv.cells (n+1 - i) ++ Builtin.zeroCells zv.cells (G - (n+1))=(A ++ ZZ).toArray:=by
  refine ⟨(Builtin.zeroCells zv.cells (n+1 - i) ++ Builtin.zeroCells zv.cells (G - (n+1))).toList, ?_, ?_⟩
  ·rw [Array.length_toList,Array.size_append,size_zeroCells,size_zeroCells,hzs]
   omega
  apply Array.ext'
  simp
 have hrz:∀ ty,(Builtin.append_ #[41,3] ty #[.slice (some ⟨b,0,none⟩) i c,.int .i64 ((n:Int)+1 - (i:Int))]).run Tryz.prog w =
   .ok (.slice (some ⟨w.heap.size,0,none⟩) (n+1) G) (w.drew.alloc (.cells (A ++ ZZ).toArray 56)):=fun ty=>by
  have h:=Lib.run_append_grow_zeros w 41 3 ty 56 i0 zv .i64 .i64 Qo0 Wma hi0 hzv (some ⟨b,0,none⟩) i c A hold (n+1 - i) (by omega) (by omega) (by omega) (by omega) (by rw [hb0];omega) (by rw [hb0,show i+(n+1 - i)=n+1 by omega];exact growslice_fits Qlz hbig)
  rw [show i+(n+1 - i)=n+1 by omega,<- hG,hZZ] at h
  rw [show (n:Int)+1 - (i:Int)=((n+1 - i:Nat):Int) by omega]
  exact h
 obtain ⟨W1,hW1⟩:∃ W1,W1=w.drew.alloc (.cells (A ++ ZZ).toArray 56):=⟨_,rfl⟩
 have hN1:W1.heap[w.heap.size]? = some (.cells (A ++ ZZ.take 2 ++ ZZ.drop 2).toArray 56 (0,0)):=by
  rw [hW1,List.append_assoc,List.take_append_drop]
  exact heap_alloc_new w.drew _
 have hb1:W1.heap[b]? = some (.cells (A ++ B ++ R).toArray 56 (0,0)):=by
  rw [hW1]
  exact (Array.getElem?_push_lt hbw).trans ((Array.getElem?_eq_getElem hbw).symm.trans hb)
 have hv1:W1.heap[vb]? = some (.cells VS 56 (0,0)):=by
  rw [hW1]
  exact (Array.getElem?_push_lt hvw).trans ((Array.getElem?_eq_getElem hvw).symm.trans hv)
 have Qvd:∀ (cs:Array Value),W1.setRow w.heap.size cs=w.drew.alloc (.cells cs 56):=fun cs=>by
  rw [hW1]
  exact Qrf w.drew _ _ _ _ rfl
 have hcpA:∀ ty dc,(Builtin.copy_ #[41,41] ty #[.slice (some ⟨w.heap.size,i * 2,none⟩) (n+1 - i) dc,.slice (some ⟨vb,0,none⟩) 1 vc]).run Tryz.prog W1=.ok (goInt 1) (w.drew.alloc (.cells (A ++ V ++ ZZ.drop 2).toArray 56)):=fun ty dc=>by
  have:=Qqq (sT:=41) Qo0 Qur W1 w.heap.size vb 56 56 A (ZZ.take 2) (ZZ.drop 2) VS V (i * 2) 0 1 hA (by simp;omega) (by omega) hN1 hv1 (fun j v hj=>by rw [Nat.zero_add];exact hVS j v hj) h1v ty (n+1 - i) dc 1 vc (by show _=min _ _;omega)
  rw [this,Qvd]
  rfl
 obtain ⟨W2,hW2⟩:∃ W2,W2=w.drew.alloc (.cells (A ++ V ++ ZZ.drop 2).toArray 56):=⟨_,rfl⟩
 have hN2:W2.drew.heap[w.heap.size]? = some (.cells ((A ++ V) ++ (ZZ.drop 2).take B.length ++ (ZZ.drop 2).drop B.length).toArray 56 (0,0)):=by
  rw [hW2,List.append_assoc (A ++ V),List.take_append_drop]
  exact heap_alloc_new w.drew _
 have hb2':W2.drew.heap[b]? = some (.cells (A ++ B ++ R).toArray 56 (0,0)):=by
  rw [hW2]
  exact (Array.getElem?_push_lt hbw).trans ((Array.getElem?_eq_getElem hbw).symm.trans hb)
 have hset2:∀ (cs:Array Value),W2.drew.setRow w.heap.size cs=(w.drew.alloc (.cells cs 56)).drew:=fun cs=>by
  rw [hW2]
  exact congrArg World.drew (Qrf w.drew _ _ _ _ rfl)
 have hcpB:∀ ty dc sc,(Builtin.copy_ #[41,41] ty #[.slice (some ⟨w.heap.size,(i+1) * 2,none⟩) (n - i) dc,.slice (some ⟨b,i * 2,none⟩) (n - i) sc]).run Tryz.prog W2.drew=.ok (goInt (n - i:Nat)) (w.drew.alloc (.cells (A ++ V ++ B ++ (ZZ.drop 2).drop B.length).toArray 56)).drew:=fun ty dc sc=>by
  have:=Qqq (sT:=41) Qo0 Qur W2.drew w.heap.size b 56 56 (A ++ V) ((ZZ.drop 2).take B.length) ((ZZ.drop 2).drop B.length) (A ++ B ++ R).toArray B ((i+1) * 2) (i * 2) (n - i) (by rw [List.length_append];omega) (by simp;omega) hB hN2 hb2' (fun j v hj=>by
   simp only [List.getElem?_toArray]
   rw [<- hA,List.append_assoc,List.getElem?_append_right (by omega),Nat.add_sub_cancel_left,List.getElem?_append_left (List.getElem?_eq_some_iff.1 hj).1,hj]) h1b ty (n - i) dc (n - i) sc (by show _=min _ _;omega)
  rw [this,hset2]
 rw [<- hW1] at hrz
 rw [<- hW2] at hcpA
 have hw1:IntKind.i64.wrap ((i:Int)+1)=(i:Int)+1:=by rw [IntKind.wrap_i64];omega
 have hbz:(0:Int)<=(i:Int)+1:=by omega
 have hin:i<=n:=by omega
 have hbn:(i:Int)<=(n:Int)+1:=by omega
 have hGi:¬ (G=i):=by omega
 have hGi1:¬ (G=i+1):=by omega
 have hci:¬ (c=i):=by omega
 refine Calls.mono (R:=fun e w'=>e=.returned (.slice (some ⟨w.heap.size,0,none⟩) (n+1) G)/\w'=(w.drew.alloc (.cells (A ++ V ++ B ++ (ZZ.drop 2).drop B.length).toArray 56)).drew) ?_ ?_
 ·clear hW1 hW2 hN1 hN2 hb1 hv1 Qvd hset2 hb2' hZZ hold hG
  go_enter Tryz.func129,Tryz.ntmps129
  go_wp2_with (first
   | (at_builtin;refine Lib.wpList_append_run _ rfl _ _ _ _ rfl _ _ rfl rfl _ _ (hrz _) ?_)
   | (at_builtin;refine wpList_copy_runI _ rfl _ _ 41 41 rfl _ _ rfl rfl (hcpA _ _) ?_))
  go_region_law_o (refine step_copy_runI rfl _ _ 41 41 rfl _ _ (by simp [Act.eval,Act.put]) (by simp [Act.eval,Act.put]) (hcpB _ _ _) ?_)
  go_wp2
  go_ret
  exact ⟨rfl,by simp only [List.append_assoc,List.drop_drop,hB];rfl⟩
 rintro e w' ⟨rfl,rfl⟩
 refine ⟨by rw [hG],_, ?_,rfl⟩
 rw [<- hG,List.length_drop,List.length_drop,hZl,hB]
 omega
theorem Wgc (xs:List Qa) (i:Int) (x:Qa) (h:(0<=i/\i<=(xs.length:Int))/\(xs.length+1) * 16<=140737488355328):
  Xz Tryz.prog 129 [.flat false 2 56 xs.length (vec Qa.e Qa.z xs),.flat false 2 56 1 (fun j=>[Qa.e x].getD j [])] [.own 0 2 0 xs.length,.d (.v (.int .i64 i)),.own 1 2 0 1]
   [.gone,.gone,.flat false 2 56 (xs.take i.toNat ++ x :: xs.drop i.toNat).length (vec Qa.e Qa.z (xs.take i.toNat ++ x :: xs.drop i.toNat))] (.own 2 2 0 (xs.take i.toNat ++ x :: xs.drop i.toNat).length):=
 Qzt Qp3 (t:=41) Qa.z 2 16 (by decide) rfl rfl rfl (fun x:Qa=>[.int .i64 x.Key,.int .i64 x.Val]) (fun _=>rfl) (fun x v h=>by simp at h;rcases h with rfl | rfl<;>rfl) Qa.e (fun _=>rfl) Wc0
  (fun b n c i vb vc A B R V VS w h1 h2 h3 h4 h5 h6 h7 h8 h9 h10 h11 h12 h13=>Qyt b n c i vb vc A B R V VS w h1 h2 h3 h4 h5 h6 h7 h8 h9 h10 h11 h12 h13)
  (fun b n c i vb vc A B R V VS w h1 h2 h3 h4 h5 h6 h7 h8 h9 h10 h11 h12 h13=>Qzs b n c i vb vc A B R V VS w h1 h2 h3 h4 h5 h6 h7 h8 h9 h10 h11 h12 h13)
  xs i x h (by have:=h.2;omega)
end Go.SyP
