/- What is pending, and what a client must see. -/
import Derived.Test.YtdndobkfnmommaaGreatP24zN
set_option linter.unusedVariables false
set_option linter.unusedSimpArgs false
namespace Go.SyP
open Go Go.Sy Sets
def Qk1 (m:Ql) (mark:Int) (e:Qd):Bool:=decide (e.M.Client=m.Client/\e.M.Seq=m.Seq/\e.Time<=mark)
def Qjs (order:List Qd) (m:Ql) (mark:Int):Bool:=order.any (Qk1 m mark)
def Qik (order:List Qd) (l:List Ql) (mark:Int):List Ql:=l.filter fun m=>!Qjs order m mark
theorem Qwe (order:List Qd) (m:Ql) (mark:Int) (hf:Few order):Qfm order m mark=some (Qjs order m mark):=by
 unfold Qfm
 rw [Qt5 order (by have:=hf.len;omega) _ (Qk1 m mark) (fun e he=>by
  unfold Qbs Qbs.j1 Qk1
  congr 1
  by_cases h1:e.M.Client=m.Client<;>by_cases h2:e.M.Seq=m.Seq<;>simp [h1,h2]),Option.bind_some]
 rfl
theorem Qlr {α:Type} (p:α->Bool) {l:List α} {z:α} {i:Nat} (h:i < l.length):(l.take (i+1)).filter p=if p (l.getD i z)=true then (l.take i).filter p ++ [l.getD i z] else (l.take i).filter p:=by
 rw [take_at (z:=z) h,List.filter_append]
 by_cases hp:p (l.getD i z)=true
 ·rw [if_pos hp,List.filter_cons_of_pos hp,List.filter_nil]
 rw [if_neg hp,List.filter_cons_of_neg hp,List.filter_nil,List.append_nil]
theorem Qx3 (order:List Qd) (l:List Ql) (mk mark:Int) (hf:Few order) (hl:l.length<=1000):Xu order ⟨l,mk⟩ mark=some (Qik order l mark):=by
 unfold Xu
 obtain ⟨r,h1,h2⟩:=Qbi (step:=Xu.step order ⟨l,mk⟩ mark) (n:=l.length) (fun i t=>Xu.S.l1 (i:Int) t) (fun i t=>t=(l.take i).filter fun m=>!Qjs order m mark) (fun r=>r=Qik order l mark) (by
  rintro t rfl
  exact ⟨Qik order l mark,by rw [Qbp (Nat.le_refl _)];simp [Xu.step,Xu.l1,Qik],rfl⟩) (by
  rintro i t hi rfl
  left
  have Ye:(0:Int)<=(i:Int)/\(i:Int) < (l.length:Int):=by omega
  have hfl:((l.take i).filter fun m=>!Qjs order m mark).length<=i:=Nat.le_trans (List.length_filter_le _ _) (by rw [List.length_take];omega)
  simp only [Xu.step,Xu.l1,Xu.j1,Ye.2,if_true,Ye,and_self,show (i:Int).toNat=i from rfl,Qwe order _ mark hf,Option.bind_some,wr1 hi (by omega:l.length<=9223372036854775807)]
  refine ⟨_, ?_,rfl⟩
  rw [Qlr (z:=Ql.z) _ hi]
  cases hc:Qjs order (l.getD i Ql.z) mark with
  | true=>simp
  | false=>
   rw [if_neg (by decide),if_pos (by omega)]
   simp) 0 [] (Nat.zero_le _) (by simp)
 subst h2
 exact h1
theorem Wd2 (order:List Qd) (l:List Ql) (c mark:Int) (hf:Few order) (hl:l.length<=1000) (hc:∀ m∈l,m.Client=c) {j:Nat} (hj:j < l.length) (acc:List Qk) (ha:acc.length<=1000):
  Yb (Qw.step (order.map trE) c mark (l.map trM)) (.l2 (j:Int) false 0 acc)=Yb (Qw.step (order.map trE) c mark (l.map trM)) (.l1 ((j+1:Nat):Int) (if Qjs order (l.getD j Ql.z) mark=true then acc else acc ++ [trM (l.getD j Ql.z)])):=by
 have hol:=hf.len
 have hjc:=hc _ (Qd0 (z:=Ql.z) hj)
 have hjs:(0:Int)<=(j:Int)/\(j:Int) < (l.length:Int):=by omega
 have h:=Qhh (step:=Qw.step (order.map trE) c mark (l.map trM)) order Qd.z (fun i b=>Qw.S.l2 (j:Int) b (i:Int) acc) (fun b e=>b || Qk1 (l.getD j Ql.z) mark e) (fun _ _=>True) (fun i b hi _=>by
  have Ye:(0:Int)<=(i:Int)/\(i:Int) < (order.length:Int):=by omega
  refine ⟨?_,trivial⟩
  simp only [Qw.step,Qw.l2,Qw.j2,List.length_map,Ye.2,if_true,Ye,hjs,and_self,show (i:Int).toNat=i from rfl,show (j:Int).toNat=j from rfl,Qpr order hi,Qs4 l hj,wr1 hi (by omega:order.length<=9223372036854775807)]
  cases b with
  | true=>rfl
  | false=>
   generalize order.getD i Qd.z=e
   generalize l.getD j Ql.z=m at hjc ⊢
   unfold Qk1
   rw [if_neg (by decide),show (trE e).M.Client=e.M.Client from rfl,show (trE e).M.Seq=e.M.Seq from rfl,show (trM m).Seq=m.Seq from rfl,show (trE e).Time=e.Time from rfl,hjc]
   by_cases h1:e.M.Client=c<;>by_cases h2:e.M.Seq=m.Seq<;>simp [h1,h2]) false trivial
 have e:=h.1
 have hfold:∀ (o:List Qd) (b:Bool),o.foldl (fun b e=>b || Qk1 (l.getD j Ql.z) mark e) b=(b || o.any (Qk1 (l.getD j Ql.z) mark)):=by
  intro o
  induction o with
  | nil=>intro b;simp
  | cons x o ih=>intro b;rw [List.foldl_cons,ih,List.any_cons,Bool.or_assoc]
 rw [hfold,Bool.false_or] at e
 simp only [show ((0:Nat):Int)=0 from rfl] at e
 rw [e,Qau]
 have Qfh:Qw.step (order.map trE) c mark (l.map trM) (.l2 (j:Int) (order.any (Qk1 (l.getD j Ql.z) mark)) (order.length:Int) acc)=some (.inl (.l1 ((j+1:Nat):Int) (if Qjs order (l.getD j Ql.z) mark=true then acc else acc ++ [trM (l.getD j Ql.z)]))):=by
  simp only [Qw.step,Qw.l2,Qw.j1,List.length_map,Int.lt_irrefl,if_false,hjs,and_self,if_true,show (j:Int).toNat=j from rfl,Qs4 l hj,wr1 hj (by omega:l.length<=9223372036854775807)]
  unfold Qjs
  cases order.any (Qk1 (l.getD j Ql.z) mark) with
  | true=>rfl
  | false=>
   rw [if_neg (by decide),if_pos (by omega)]
   rfl
 rw [Qfh]
 rfl
theorem Qve (order:List Qd) (l:List Ql) (c mark:Int) (hf:Few order) (hl:l.length<=1000) (hc:∀ m∈l,m.Client=c):
  Yb (Qw.step (order.map trE) c mark (l.map trM)) (.l1 0 [])=some ((Qik order l mark).map trM):=by
 have key:∀ (d j:Nat),j+d=l.length->Yb (Qw.step (order.map trE) c mark (l.map trM)) (.l1 (j:Int) (((l.take j).filter fun m=>!Qjs order m mark).map trM))=some ((Qik order l mark).map trM):=by
  intro d
  induction d with
  | zero=>
   intro j hj
   obtain rfl:j=l.length:=by omega
   rw [Qau]
   simp [Qw.step,Qw.l1,stk,Qik]
  | succ d ih=>
   intro j hj
   have hj':j < l.length:=by omega
   have hfl:(((l.take j).filter fun m=>!Qjs order m mark).map trM).length<=j:=by rw [List.length_map];exact Nat.le_trans (List.length_filter_le _ _) (by rw [List.length_take];omega)
   rw [Qau]
   have s1:Qw.step (order.map trE) c mark (l.map trM) (.l1 (j:Int) (((l.take j).filter fun m=>!Qjs order m mark).map trM))=some (.inl (.l2 (j:Int) false 0 (((l.take j).filter fun m=>!Qjs order m mark).map trM))):=by
    simp only [Qw.step,Qw.l1,List.length_map]
    rw [if_pos (by omega)]
   rw [s1]
   show Yb (Qw.step (order.map trE) c mark (l.map trM)) (.l2 (j:Int) false 0 _)=_
   rw [Wd2 order l c mark hf hl hc hj' _ (by omega),<- ih (j+1) (by omega),Qlr (z:=Ql.z) _ hj']
   cases hcb:Qjs order (l.getD j Ql.z) mark<;>simp
 have:=key l.length 0 (by omega)
 simpa using this
theorem Qto (order:List Qd) (Qae:List Qy) (at_ c mark:Int) (hf:Few order) (hv:Qy9 Qae):
  (Ord order->Qw (order.map trE) (Qae.map trV) at_ c mark=some ((Qik order (Qdv c (Qae.take at_.toNat)) mark).map trM))/\(¬ Ord order->Qw (order.map trE) (Qae.map trV) at_ c mark=some []):=by
 obtain ⟨r,h1,h2,h3⟩:=Qr7 order hf
 have hl:=hv.len
 have hlen:(Qdv c (Qae.take at_.toNat)).length<=1000:=by
  have:=Qrq c (Qae.take at_.toNat)
  rw [List.length_take] at this
  omega
 constructor
 ·intro ho
  unfold Qw
  rw [h2,Option.bind_some,if_pos (h3.2 ho),Qvd Qae hv,Option.bind_some]
  exact Qve order _ c mark hf hlen fun m hm=>(Qwt c _ m hm).2.1
 intro ho
 unfold Qw
 rw [h2,Option.bind_some,if_neg (fun h=>ho (h3.1 h))]
def Qgj:List Qb:=[⟨0,4096⟩]
theorem Qix:SOk Qgj:=Qpx (by decide)
noncomputable def Qiv (order:List Qd) (l:List Ql) (mark:Int):List Qa:=foldM Qgj (foldM Qgj [] (Yx mark order)) (Qik order l mark)
theorem Qyu (mark:Int) (l:List Qd):(Yx mark l).length<=l.length:=by
 unfold Yx
 rw [List.length_map]
 exact List.length_filter_le _ _
theorem Qpo {mark:Int} {l:List Qd} (h:okE l=true):∀ m∈Yx mark l,mOk m=true:=by
 intro m hm
 unfold Yx at hm
 obtain ⟨e,he,rfl⟩:=List.mem_map.1 hm
 have:=List.all_eq_true.1 h e (List.mem_filter.1 he).1
 exact this
structure Ql8 (order:List Qd) (l:List Ql):Prop where
 few:Few order
 len:order.length<=30
 ok:okE order=true
 ms:∀ m∈l,mOk m=true
 ll:l.length<=30
theorem Ql8.base {order:List Qd} {l:List Ql} (h:Ql8 order l) (mark:Int):Tb (foldM Qgj [] (Yx mark order))/\(foldM Qgj [] (Yx mark order)).length<=240:=by
 have h1:=Qyu mark order
 have h2:=h.len
 have:=Qnv (on:=Qgj) (by decide) Qix (ms:=Yx mark order) (t:=[]) Tb.nil (Qpo h.ok) (by simp;omega)
 exact ⟨this.1,by have:=this.2;simp at this;omega⟩
theorem Qrx (order:List Qd) (l:List Ql) (mark:Int):(Qik order l mark).length<=l.length:=List.length_filter_le _ _
theorem Qlx {order:List Qd} {l:List Ql} {mark:Int} {m:Ql} (h:m∈Qik order l mark):m∈l:=(List.mem_filter.1 h).1
theorem Ql8.all {order:List Qd} {l:List Ql} (h:Ql8 order l) (mark:Int):Tb (Qiv order l mark)/\(Qiv order l mark).length<=480:=by
 have hb:=h.base mark
 have hp:=Qrx order l mark
 have hl:=h.ll
 have:=Qnv (on:=Qgj) (by decide) Qix (ms:=Qik order l mark) (t:=foldM Qgj [] (Yx mark order)) hb.1 (fun m hm=>h.ms m (Qlx hm)) (by omega)
 exact ⟨this.1,by have:=this.2;unfold Qiv;omega⟩
theorem Qyn {m:Ql} (h:mOk m=true):m.Pairs.length<=20:=by have:=(Qn7 h).len;omega
theorem Wht {order:List Qd} {l:List Ql} (h:Ql8 order l) (mk key mark:Int):Qc4 order ⟨l,mk⟩ key mark=some ⟨(look (Qiv order l mark) key).getD 0,(look (Qiv order l mark) key).isSome⟩:=by
 have hb:=h.base mark
 have hp:=Qrx order l mark
 have hl:=h.ll
 have ha:=h.all mark
 unfold Qc4 bnd
 rw [show Qem=Qgj from rfl]
 simp only []
 rw [Qtz mark h.few (by decide) Qix h.ok,Option.bind_some,Qx3 order l mk mark h.few (by omega),Option.bind_some,
  Wbb (on:=Qgj) (by omega) (fun m hm=>Qyn (h.ms m (Qlx hm))) (by decide) hb.1 Qix (List.all_eq_true.2 fun m hm=>h.ms m (Qlx hm)),Option.bind_some]
 show ((Qgv (Qiv order l mark) key).bind fun v6=>some (⟨v6.1,v6.2⟩:Yv))=_
 rw [Wba _ _ (by omega) ha.1,Option.bind_some]
theorem Qx5 {order:List Qd} {Qae:List Qy} (hv:Qy9 Qae) (at_ c key mark:Int) (ho:Ord order) (h:Ql8 order (Qdv c (Qae.take at_.toNat))):
  Qe9 (order.map trE) (Qae.map trV) at_ c key mark=some ⟨(look (Qiv order (Qdv c (Qae.take at_.toNat)) mark) key).getD 0,(look (Qiv order (Qdv c (Qae.take at_.toNat)) mark) key).isSome⟩:=by
 have hb:=h.base mark
 have hp:=Qrx order (Qdv c (Qae.take at_.toNat)) mark
 have hl:=h.ll
 have ha:=h.all mark
 unfold Qe9 bnd
 rw [show Qb9=Qgj.map toR from rfl]
 simp only []
 rw [(Qx4 mark h.few (by decide)).1 ⟨Qix,h.ok⟩,Option.bind_some,(Qto order Qae at_ c mark h.few hv).1 ho,Option.bind_some,
  Qu9 (on:=Qgj) (by omega) (fun m hm=>Qyn (h.ms m (Qlx hm))) (by decide) hb.1 Qix (List.all_eq_true.2 fun m hm=>h.ms m (Qlx hm)),Option.bind_some]
 show ((Zi ((Qiv order (Qdv c (Qae.take at_.toNat)) mark).map tr) key).bind fun v6=>some v6)=_
 rw [Qrd _ _ (by omega),Option.bind_some]
end Go.SyP
