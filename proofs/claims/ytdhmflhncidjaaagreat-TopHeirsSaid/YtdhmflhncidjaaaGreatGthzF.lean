/- The runner at this seat: its steps. -/
import Derived.Test.YtdhmflhncidjaaaGreatGthzR
import Derived.Test.YtdhmflhncidjaaaGreatSyRunX
import Derived.Test.YtdhmflhncidjaaaGreatSyPast
import Derived.Test.YtdhmflhncidjaaaGreatSyDel
set_option linter.unusedVariables false
namespace Go.SyP
open Go Go.Sy Go.Proofs
theorem Quk:Qmj Tryz.prog 99 3 9 (.string ⟨#[]⟩):=⟨by kernel_rfl,by kernel_rfl,fun _=>by kernel_rfl,rfl⟩
theorem Wpq:Wnu Tryz.prog 58 9 (.string ⟨#[]⟩) 16:=⟨by kernel_rfl,by kernel_rfl,rfl,rfl⟩
theorem Wpl:Wng Tryz.prog 87 158 5:=fun a ha s t hb=>Wb9 a ha s t hb
def mxR (n0:Nat) (k:List Item) (st:St):Option (List Item × St):=
 orE (mx0 TR k st) (orE (Wks TR k st) (orE (Wkp k st) (orE (Wkk k st) (orE (Wkn 99 (.string ⟨#[]⟩) k st) (orE (Wku 99 k st) (orE (Wkq 99 k st) (orE (Wkj 99 k st) (orE (Wko k st) (orE (Qzt 58 9 (.string ⟨#[]⟩) 16 k st)
  (orE (Wkv 87 158 5 k st) (orE (Wkw 87 158 5 n0 k st) (Wkh 88 158 5 n0 k st))))))))))))
theorem Whx:∀ n0 k st k' st',mxR n0 k st=some (k',st')->∀ X f Q,X.P=Tryz.prog->X.μ0.length=n0->(∀ b,¬ X.Qkw b)->n0<=st.rows.length->AK X f k' Q st'->AK X f k Q st:=by
 intro n0 k st k' st' e X f Q hP h0 hx hle h
 have hT:Qw X.P TR:=hP▸Qtf
 subst h0
 rcases Qdy e with e | e
 ·exact Whv hT hle e h
 rcases Qdy e with e | e
 ·exact Wmq hT e h
 rcases Qdy e with e | e
 ·exact Wmo e h
 rcases Qdy e with e | e
 ·exact Wmk e h
 rcases Qdy e with e | e
 ·exact Wmm (hP▸Quk) e h
 rcases Qdy e with e | e
 ·exact Wmr (hP▸Quk) e h
 rcases Qdy e with e | e
 ·exact Wmp (hP▸Quk) e h
 rcases Qdy e with e | e
 ·exact Wmj (hP▸Quk) e h
 rcases Qdy e with e | e
 ·exact Wmn e h
 rcases Qdy e with e | e
 ·exact Whw (hP▸Wpq) e h
 rcases Qdy e with e | e
 ·exact Wms e h
 rcases Qdy e with e | e
 ·exact Wmt (hP▸Wpl) (hP▸Wgs) hx e h
 exact Wmi (hP▸Wjb) (hP▸Wgt) hx e h
theorem moR:Tryz.prog.follows .mixedOrders=true:=by kernel_rfl
end Go.SyP
set_option linter.unusedSimpArgs false
namespace Go.SyP
open Go Go.Sy Go.Proofs
noncomputable section
theorem Wfd {X:Ctx} {T:Tab} {f:FuncId} {fn:Func} {Qr:List Row} {ret av:AV} {st:St} {k:List Item} {Ds A:List Nat} (hT:Qw X.P T) (id:Nat) (hf:X.P.funcs[f]? = some fn) (hX:X.ds=[]/\X.rnd=none) (hr:st.rows[id]? = some (.obj (Qeo A Ds)))
  (e:Quq T ⟨st.nt,st.tm,st.rows.set id (.obj (Qeo A []))⟩ fn.results.toList=some av) (Yu:List Nat) (hid:id ∉ Yu) (hs:Sel st.rows (Qbm Yu st.rows.length) Yu Qr) (hn:Yu.Nodup) (h0:Yu.take X.μ0.length=List.range X.μ0.length) (Qhx:av=Qa0 (Qbm Yu st.rows.length) ret)
  (nr:∀ r∈Qr,NR r) (na:NA ret):AK (X.marks Ds) f (.code .ret :: k) (Ym X Qr ret) st:=by
 intro a C hC b cs hb hk
 have hrC:C.rows[id]? = some (.obj (Qeo A Ds)):=by rw [hC.rows];exact hr
 have s1:=stepR_ret (P:=X.P) (b:=b) (a:=a) (k:=k) (cs:=cs) (w:=C.w) (hk.2.trans hX.2)
 obtain ⟨C1,Qfu,ev,Qd3,s2⟩:=Qtz (P:=X.P) (X:=X) id rfl Ds A C { b.atR a (.code .ret :: k) with mode:=.returning } cs hC.rel.Qe8 hrC rfl hC.defers
 have hCX:Sim { X with ds:=a.defers } st a C:=⟨⟨hC.rel.Qe8.len,hC.rel.Qe8.os,hC.rel.Qe8.tape,hC.rel.Qe8.output,hC.rel.Qe8.size,hC.rel.Qe8.keep,hC.rel.Qe8.shape,hC.rel.Qe8.first,hC.rel.Qe8.place,hC.rel.Qe8.apart,hC.rel.Qe8.Qb4,hC.rel.Qe8.Qb7,hC.rel.Qe8.rel⟩,hC.rows,rfl,hC.nt,hC.tm⟩
 let Y:Ctx:={ X with ds:=a.defers }
 have hrelY:Wt Y C1:=⟨Qfu.len,Qfu.os,Qfu.tape,Qfu.output,Qfu.size,Qfu.keep,Qfu.shape,Qfu.first,Qfu.place,Qfu.apart,Qfu.Qb4,Qfu.Qb7,Qfu.rel⟩
 have evY:Ev Y C C1:=⟨ev.size,ev.keep,ev.dead,ev.shape,ev.pre⟩
 have hm:=hCX.Qds evY hrelY
 have hrows':C1.rows=st.rows.set id (.obj (Qeo A [])):=by rw [Qd3,hC.rows]
 rw [hrows'] at hm
 obtain ⟨v,r1,r2⟩:=Qur (X:=Y) hT hm (fn:=fn) (av:=av) e
 have hl:C1.rows.length=st.rows.length:=by rw [Qd3];simp [hC.rows]
 have Qy7:Sel C1.rows (Qbm Yu C1.rows.length) Yu Qr:=by
  rw [hl]
  have gen:∀ {Qpj:List Nat} {rs:List Row},Sel st.rows (Qbm Yu st.rows.length) Qpj rs->id ∉ Qpj->Sel C1.rows (Qbm Yu st.rows.length) Qpj rs:=by
   intro Qpj rs hs
   induction hs with
   | nil=>exact fun _=>.nil
   | cons h1 _ ih=>
    intro hni
    simp only [List.mem_cons,not_or] at hni
    exact .cons (by rw [Qd3,List.getElem?_set_ne hni.1,hC.rows];exact h1) (ih hni.2)
  exact gen hs hid
 have p:Qjk X C1 Yu Qr:=by
  refine ⟨Qy7,hn,fun j hj=>?_⟩
  have:(Yu.take X.μ0.length)[j]? = some j:=by rw [h0];simp [hj]
  rw [List.getElem?_take_of_lt hj] at this
  exact this
 have Zb:=Qmh Qfu p
 have Qgc:∀ b,(Qc4 C1 Yu Qr).ok X true b->(Qc4 C1 Yu Qr).okR X true b:=fun _ h=>⟨rfl,h⟩
 refine ⟨Qc4 C1 Yu Qr,_,⟨v,rfl,⟨Zb, ?_, ?_⟩, ?_⟩,.head s1 s2,hb⟩
 ·intro j ob r e1 e2
  exact (Zb.rel j ob r e1 e2).perm Qgc (nr r (List.mem_of_getElem? e2))
 ·rw [Qhx,<- hl] at r2
  exact (Qoh Qfu p r2).perm Qgc na
 exact ⟨rfl,rfl,hk.1,fn,by show X.P.funcs[b.fn]? = _;rw [hb];exact hf,r1⟩
theorem Wg6 {rows:List Row} (hl:rows.all Row.live=true):Qbz rows (List.range rows.length) rows:=by
 have hρ:∀ j,Zw (List.range rows.length) rows.length j=j:=by
  intro j
  simp only [Zw,List.length_range]
  split
  ·simp [List.getD_eq_getElem?_getD, *]
  omega
 refine ⟨List.nodup_range,by simp,fun j id q h1 h2=>?_⟩
 have hj:=(List.getElem?_eq_some_iff.1 h2).1
 have:id=j:=by
  have:=(List.getElem?_eq_some_iff.1 h1).2
  simpa using this.symm
 subst this
 exact ⟨by rw [Qvm hρ];exact h2,List.all_eq_true.1 hl q (List.mem_of_getElem? h2)⟩
def Qxf (m:Nat):Qfe:=Qri BR (fun _=>none) (run TR BR mxR (fun _=>none) m)
theorem Qs3 (m:Nat):Qf4 Tryz.prog (Qxf m):=Qyf Wky (fun _ _ h=>by cases h) (Qz4 Qtf Wky moR Whx (fun _ _ h=>by cases h) m)
def mxP (k:List Item) (st:St):Option (List Item × St):=mx0 TR k st
theorem Qq1 {X:Ctx} (hP:X.P=Tryz.prog):∀ k st k' st',mxP k st=some (k',st')->X.μ0.length<=st.rows.length->∀ f Q,AK X f k' Q st'->AK X f k Q st:=fun _ _ _ _ e hle _ _ h=>Whv (hP▸Qtf) hle e h
def Wpk:List Item->Code
 | .code (.rangeFunc _ _ a _) :: _=>a
 | _=>.skip
def Wnz:List Item->Code
 | .code (.rangeFunc _ _ _ b) :: _=>b
 | _=>.skip
abbrev KP (p:List Nat):List Item:=Qv (Tryz.f49.body.getD .skip) p []
abbrev KY (p:List Nat):List Item:=Qv (Tryz.f136.body.getD .skip) p []
def Wny:Code:=Wpk (KP [1,1,0,1,0])
def Wca:Code:=Wnz (KP [1,1,0,1,0])
def Wp4:ByteArray:=⟨#[5,1,0,0,1,97,47,121,193,255]⟩
abbrev mpP (b:Bool):Row:=bif b then .mp [⟨.int .i64 8,.string Wp4,0⟩] 1 else .mp [] 0
abbrev R4 (b:Bool):List Row:=[.flat false 1 9 16 (fun _=>[.v (.string ⟨#[]⟩)]),mpP b,.box 101 [.own 0 1 0 16,.mp 1,.i 0,.d (.v (.slice none 0 0)),.i 0,.i 0,.b false],.box 104 [.ptr 2 0 0 0,.i 1,.i 1,.i 0,.i 0,.b false]]
abbrev R10 (b:Bool):List Row:=R4 b ++ [.box 57 [.ptr 3 0 0 0],.box 3 [.i 8],.box 3 [.i 1],.box 43 [.i 0],.box 3 [.i 1],.box 9 [.s ⟨#[97]⟩]]
abbrev RP (s:LoopState) (b:Bool) (l:Nat):List Row:=
 [.loop l s 49 51 [4,6,7,9] [.ptr 5 0 0 0,.ptr 6 0 0 0,.ptr 7 0 0 0,.ptr 9 0 0 0] #[18,19] Wny Wca,.flat false 1 9 16 (fun _=>[.v (.string ⟨#[]⟩)]),mpP b,.box 101 [.own 1 1 0 16,.mp 2,.i 0,.d (.v (.slice none 0 0)),.i 0,.i 0,.b false],.box 104 [.ptr 3 0 0 0,.i 1,.i 1,.i 0,.i 0,.b false],
 .box 57 [.ptr 4 0 0 0],.box 3 [.i 8],.box 3 [.i 1],.box 43 [.i 0],.box 3 [.i 1],.box 9 [.s ⟨#[97]⟩]]
abbrev xP:Row:=.box 106 [.i 1,.i 0,.i 0,.i 1,.s ⟨#[97]⟩]
abbrev tP:List (Nat × AV):=[(4,.ptr 5 0 0 0),(6,.ptr 6 0 0 0),(7,.ptr 7 0 0 0),(9,.ptr 9 0 0 0)]
theorem Qzu:NR (.flat false 1 9 16 (fun _=>[.v (.string ⟨#[]⟩)])):=.flat fun _ _=>.cons (.v _) .nil
theorem Wh1 (b:Bool):NR (mpP b):=by cases b<;>exact .mp _ _
theorem Wlq (b:Bool) (l:Nat):∀ r∈RP .ready b l ++ [xP],NR r:=fun r hr=>by
 simp only [RP,xP,List.cons_append,List.nil_append,List.mem_cons,List.not_mem_nil,or_false] at hr
 rcases hr with rfl | rfl | rfl | rfl | rfl | rfl | rfl | rfl | rfl | rfl | rfl | rfl
 ·exact .loop (.cons (.ptr _ _ _ _) (.cons (.ptr _ _ _ _) (.cons (.ptr _ _ _ _) (.cons (.ptr _ _ _ _) .nil))))
 ·exact Qzu
 ·exact Wh1 b
 ·exact .box (.cons (.own _ _ _ _) (.cons (.mp _) (.cons (.d (.v _)) (.cons (.d (.v _)) (.cons (.d (.v _)) (.cons (.d (.v _)) (.cons (.d (.v _)) .nil)))))))
 ·exact .box (.cons (.ptr _ _ _ _) (.cons (.d (.v _)) (.cons (.d (.v _)) (.cons (.d (.v _)) (.cons (.d (.v _)) (.cons (.d (.v _)) .nil))))))
 ·exact .box (.cons (.ptr _ _ _ _) .nil)
 ·exact .box (.cons (.d (.v _)) .nil)
 ·exact .box (.cons (.d (.v _)) .nil)
 ·exact .box (.cons (.d (.v _)) .nil)
 ·exact .box (.cons (.d (.v _)) .nil)
 ·exact .box (.cons (.d (.v _)) .nil)
 exact .box (.cons (.d (.v _)) (.cons (.d (.v _)) (.cons (.d (.v _)) (.cons (.d (.v _)) (.cons (.d (.v _)) .nil)))))
theorem Wpa (l:Nat):Qor Tryz.prog l (RP .ready false l) (.i 0) (.s ⟨#[97]⟩) (RP .ready true l ++ [xP]) true:=by
 refine Wa1 (by decide) (by decide) (by decide) fun X hP h0 hX=>?_
 have hT:Qw X.P TR:=hP▸Qtf
 have hmo:X.P.follows .mixedOrders=true:=hP▸moR
 have hc:Qf4 X.P (Qxf 3000):=hP▸Qs3 3000
 refine goR (B:=BR) hT hmo (Qq1 hP) hc 11 7 [10,11,4,6,7,9] (k':=[.beginRound,.code Wca]) (st':=⟨51,(10,.i 0) :: (11,.s ⟨#[97]⟩) :: tP,RP .ready false l⟩) h0 (by kernel_rfl) ?_
 refine Qx1 (st':=⟨51,(10,.i 0) :: (11,.s ⟨#[97]⟩) :: tP,RP .busy false l⟩) 0 hX rfl rfl ?_
 refine goR (B:=BR) hT hmo (Qq1 hP) hc 11 400 [] (k':=[]) (st':=⟨51,[],RP .busy true l ++ [xP]⟩) h0 (by kernel_rfl) ?_
 exact Qx4 0 hX rfl rfl (Wlq true l)
theorem Wm0 (l:Nat):Xt Tryz.prog 136 (RP .ready false l) [.d (.v (.func (.yield l) #[] #[])),.ptr 10 0 0 0] (RP .ready true l) (.Ql []):=by
 refine Wx Tryz.func136 rfl (nt:=24) rfl (Nat.le_of_ble_eq_true rfl) fun X hP h0 hX=>?_
 have hT:Qw X.P TR:=hP▸Qtf
 have hmo:X.P.follows .mixedOrders=true:=hP▸moR
 have hc:Qf4 X.P (Qxf 300):=hP▸Qs3 300
 have hf:X.P.funcs[136]? = some Tryz.f136:=hP▸Tryz.func136
 refine goR (B:=BR) hT hmo (Qq1 hP) hc 11 400 [5,6,9,10,20] (k':=KY [1,0,0,1,1,0,0,1,0,12]) (st':=⟨24,[(5,.i 1),(6,.i 0),(9,.d (.v (.func (.yield l) #[] #[]))),(10,.i 0),(20,.s ⟨#[97]⟩)],RP .ready false l⟩) h0 (by kernel_rfl) ?_
 refine Wfk (av:=.i 0) (bv:=.s ⟨#[97]⟩) (go:=true) (dst:=some 21) (k':=KY [1,0,0,1,1,0,0,1,0,13]) [5,6,21] (List.range (RP .ready false l).length) hP (Wpa l) (by kernel_rfl) (Wg6 rfl) (.cons (Qk _) (.cons (Qk _) .nil))
  (st':=⟨24,[(5,.i 1),(6,.i 0),(21,.b true)],RP .ready true l ++ [xP]⟩) (by kernel_rfl) ?_
 refine goR (B:=BR) hT hmo (Qq1 hP) hc 11 400 [] (k':=[]) (st':=⟨24,[],RP .ready true l ++ [xP]⟩) h0 (by kernel_rfl) ?_
 exact Qtp hf hX (av:=.Ql []) (by kernel_rfl) [0,1,2,3,4,5,6,7,8,9,10] (Qal (by kernel_rfl)) (by decide) (by rw [h0];rfl) (by kernel_rfl) (fun r hr=>Wlq true l r (List.mem_append_left _ hr)) (.Ql .nil)
theorem Wcy:Sy.Enters Tryz.prog 136:=Qy Tryz.func136 (by kernel_rfl) (by kernel_rfl)
theorem Wga:Sy.Enters Tryz.prog 49:=Qy Tryz.func49 (by kernel_rfl) (by kernel_rfl)
theorem Wps (b:Bool):∀ r∈R4 b,NR r:=fun r hr=>by
 simp only [R4,List.mem_cons,List.not_mem_nil,or_false] at hr
 rcases hr with rfl | rfl | rfl | rfl
 ·exact Qzu
 ·exact Wh1 b
 ·exact .box (.cons (.own _ _ _ _) (.cons (.mp _) (.cons (.d (.v _)) (.cons (.d (.v _)) (.cons (.d (.v _)) (.cons (.d (.v _)) (.cons (.d (.v _)) .nil)))))))
 exact .box (.cons (.ptr _ _ _ _) (.cons (.d (.v _)) (.cons (.d (.v _)) (.cons (.d (.v _)) (.cons (.d (.v _)) (.cons (.d (.v _)) .nil))))))
abbrev Wp6:List Nat:=[12,0,1,2,3,4,5,6,7,8,9]
abbrev tmP:List (Nat × AV):=[(4,.ptr 4 0 0 0),(6,.ptr 5 0 0 0),(7,.ptr 6 0 0 0),(8,.ptr 7 0 0 0),(9,.ptr 8 0 0 0),(17,.fn 136 [.ptr 9 0 0 0])]
theorem Wqd:Xt Tryz.prog 49 (R4 false) [.ptr 3 0 0 0,.s ⟨#[97]⟩,.i 8,.i 1] (R4 true) (.i 0):=by
 refine Wx Tryz.func49 rfl (nt:=51) rfl (Nat.le_of_ble_eq_true rfl) fun X hP h0 hX=>?_
 have hT:Qw X.P TR:=hP▸Qtf
 have hmo:X.P.follows .mixedOrders=true:=hP▸moR
 have hc:Qf4 X.P (Qxf 300):=hP▸Qs3 300
 have hf:X.P.funcs[49]? = some Tryz.f49:=hP▸Tryz.func49
 refine goR (B:=BR) hT hmo (Qq1 hP) hc 4 120 [4,6,7,8,9,17] (k':=KP [1,1,0,1,0]) (st':=⟨51,tmP,R10 false⟩) h0 (by kernel_rfl) ?_
 refine Wax hX (Ds:=[]) rfl (Wlv ?_)
 refine Qw3 (g:=136) (fop:=.tmp 17) (p:=18) (q:=19) (asg:=Wny) (body:=Wca) (k:=KP [1,1,1]) (caps:=[.ptr 9 0 0 0]) (ret:=.Ql []) (jd:=0) true [] [4,6,7,9] [.ptr 4 0 0 0,.ptr 5 0 0 0,.ptr 6 0 0 0,.ptr 8 0 0 0] [.ptr 4 0 0 0,.ptr 5 0 0 0,.ptr 6 0 0 0,.ptr 8 0 0 0] Wp6 (fun l=>RP .ready false l) (fun l=>RP .ready true l)
  (fun l=>[.d (.v (.func (.yield l) #[] #[])),.ptr 10 0 0 0]) hP hX rfl Wcy rfl (fun l=>Wm0 l) (by kernel_rfl) (fun D=>Qdn (by decide) (by kernel_rfl) rfl)
  (fun D=>.cons (Qk _) (.cons (.same (.ptr 10 0 0 0)) .nil)) (fun _ D=>by kernel_rfl) (fun h=>by cases h) fun D=>?_
 refine Wnx 10 11 (D:=D) (A:=[]) (O:=[]) (st':=⟨51,tmP,R10 true ++ [.obj (Qeo [D] [D]),.gone,.gone]⟩) (by kernel_rfl) (by kernel_rfl) (by kernel_rfl) ?_
 refine Xq (X:=X.marks [D]) hT 4 (KP [1,1,1,1]) ⟨51,tmP,R10 true ++ [.obj (Qeo [D] [D]),.gone,.gone]⟩ ?_
 exact Wfd (k:=[]) hT 10 hf hX rfl (av:=.i 0) (by kernel_rfl) [0,1,2,3] (by decide) (Qal (by kernel_rfl)) (by decide) (by rw [h0];rfl) (by kernel_rfl) (Wps true) (.d (.v _))
end
end Go.SyP
namespace Go.SyP
open Go Go.Sy Go.Proofs
def xEq:Row->Row->Bool
 | .box ty cs,.box ty' cs'=>Nat.beq ty ty' && Qou cs cs'
 | .mp es c,.mp es' c'=>lEq eEq es es' && Nat.beq c c'
 | _,_=>false
theorem Wal {r r':Row} (h:xEq r r'=true):r=r':=by
 unfold xEq at h
 split at h
 ·simp only [Bool.and_eq_true] at h
  rw [Nat.eq_of_beq_eq_true h.1,Qkr h.2]
 ·simp only [Bool.and_eq_true] at h
  rw [Qqx (fun _ _ h=>Wfz h) h.1,Nat.eq_of_beq_eq_true h.2]
 cases h
def Wk1 (Xx:List AV) (rows:List Row):Option (List Row × AV):=
 match rows with
 | .flat false 1 9 16 g :: r1 :: r2 :: r3 :: rest=>
  match (List.range 16).all (fun i=>Qu6 (g i) [.v (.string ⟨#[]⟩)]) && xEq r1 (.mp [] 0) && xEq r2 (.box 101 [.own 0 1 0 16,.mp 1,.i 0,.d (.v (.slice none 0 0)),.i 0,.i 0,.b false]) && xEq r3 (.box 104 [.ptr 2 0 0 0,.i 1,.i 1,.i 0,.i 0,.b false])
   && Qou Xx [.ptr 3 0 0 0,.s ⟨#[97]⟩,.i 8,.i 1] with
  | true=>some (R4 true ++ rest,.i 0)
  | false=>none
 | _=>none
theorem Wmx (Xx:List AV) (rows:List Row) (r:List Row × AV) (h:Wk1 Xx rows=some r):Qkn Tryz.prog 49 Xx rows r.1 r.2:=by
 unfold Wk1 at h
 split at h
 ·rename_i g r1 r2 r3 rest
  split at h
  ·rename_i hc
   simp only [Bool.and_eq_true] at hc
   obtain ⟨⟨⟨⟨c1,c2⟩,c3⟩,c4⟩,c5⟩:=hc
   have c2:=Wal c2
   have c3:=Wal c3
   have c4:=Wal c4
   have c5:=Qkr c5
   subst c2 c3 c4 c5
   injection h with h
   subst h
   intro X f Q st k k' dst st' hP h0 hr Qdd Qat hk
   refine Qgp 0 (fun _=>[.v (.string ⟨#[]⟩)]) (by rw [hr];rfl) (fun i hi=>Qrl (List.all_eq_true.1 c1 i (List.mem_range.2 hi))) rfl ?_
   refine Qiv [0,1,2,3] (Xb:=R4 false) (Qr:=R4 true) (args:=[.ptr 3 0 0 0,.s ⟨#[97]⟩,.i 8,.i 1]) (ret:=.i 0) (by exact Qdd) (hP▸Wga) (Qdn (by decide) (by rw [hr];kernel_rfl) rfl) (.cons (.same (.ptr 3 0 0 0)) (.cons (Qk _) (.cons (Qk _) (.cons (Qk _) .nil)))) (hP▸Wqd) ?_ hk
   refine Eq.trans ?_ Qat
   rw [hr]
   unfold Qav
   rw [show List.drop ([0,1,2,3]:List Nat).length (R4 true)=[] from rfl,List.map_nil,List.append_nil]
   rfl
  cases h
 cases h
def cxR (g:Nat):Option (List AV->List Row->Option (List Row × AV)):=match Nat.beq g 49 with
 | true=>some Wk1
 | false=>none
theorem Wn5:∀ g c,cxR g=some c->∀ Xx rows r,c Xx rows=some r->Qkn Tryz.prog g Xx rows r.1 r.2:=by
 intro g c h Xx rows r hr
 unfold cxR at h
 split at h
 ·rename_i hg
  have hg:=Nat.eq_of_beq_eq_true hg
  subst hg
  injection h with h
  subst h
  exact Wmx Xx rows r hr
 cases h
def Wbm:Option (List Row × AV)->Bool
 | some ([],.d (.v (.bool true)))=>true
 | _=>false
theorem Wpo:Wbm (run TR BR mxR cxR 4000 0 Tryz.f5.results.toList [.code (Tryz.f5.body.getD .skip)] ⟨59,[],[]⟩)=true:=by kernel_rfl
theorem fine.Qt:Xt Tryz.prog 5 [] [] [] (.b true):=by
 have h:=Wpo
 generalize he:run TR BR mxR cxR 4000 0 Tryz.f5.results.toList [.code (Tryz.f5.body.getD .skip)] ⟨59,[],[]⟩=r at h
 unfold Wbm at h
 split at h
 ·exact Wk8 (rows:=[]) (args:=[]) (r:=([],.b true)) Qtf Wky moR Whx Wn5 4000 Tryz.func5 rfl rfl (Nat.zero_le _) rfl he
 cases h
end Go.SyP
