/- What is pending, and what a client must see. -/
import Derived.Test.YtdndobkfnmommaaP24N
set_option linter.unusedVariables false
set_option linter.unusedSimpArgs false
namespace Go.SyP
open Go Go.Sy Sets

def comB1 (m:api_Mut) (mark:Int) (e:api_Entry):Bool:=decide (e.M.Client=m.Client∧e.M.Seq=m.Seq∧e.Time≤mark)
def comB (order:List api_Entry) (m:api_Mut) (mark:Int):Bool:=order.any (comB1 m mark)
def pendL (order:List api_Entry) (l:List api_Mut) (mark:Int):List api_Mut:=l.filter fun m=>!comB order m mark
theorem committed_eq (order:List api_Entry) (m:api_Mut) (mark:Int) (hf:Few order):audit_committed order m mark=some (comB order m mark):=by
 unfold audit_committed
 rw [containsE order (by have:=hf.len;omega) _ (comB1 m mark) (fun e he=>by
  unfold audit_committed_1 audit_committed_1.j1 comB1
  congr 1
  by_cases h1:e.M.Client=m.Client<;>by_cases h2:e.M.Seq=m.Seq<;>simp [h1,h2]),Option.bind_some]
 rfl
theorem filter_take_snoc {α:Type} (p:α→Bool) {l:List α} {z:α} {i:Nat} (h:i < l.length):(l.take (i+1)).filter p=if p (l.getD i z)=true then (l.take i).filter p ++ [l.getD i z] else (l.take i).filter p:=by
 rw [take_at (z:=z) h,List.filter_append]
 by_cases hp:p (l.getD i z)=true
 ·rw [if_pos hp,List.filter_cons_of_pos hp,List.filter_nil]
 ·rw [if_neg hp,List.filter_cons_of_neg hp,List.filter_nil,List.append_nil]
theorem pendings_eq (order:List api_Entry) (l:List api_Mut) (mk mark:Int) (hf:Few order) (hl:l.length≤1000):audit_pendings_l1 order ⟨l,mk⟩ mark=some (pendL order l mark):=by
 unfold audit_pendings_l1
 obtain ⟨r,h1,h2⟩:=for_post (step:=audit_pendings_l1.step order ⟨l,mk⟩ mark) (n:=l.length) (fun i t=>audit_pendings_l1.S.l1 (i:Int) t) (fun i t=>t=(l.take i).filter fun m=>!comB order m mark) (fun r=>r=pendL order l mark) (by
  rintro t rfl
  exact ⟨pendL order l mark,by rw [take_all (Nat.le_refl _)];simp [audit_pendings_l1.step,audit_pendings_l1.l1,pendL],rfl⟩) (by
  rintro i t hi rfl
  left
  have hstep:(0:Int)≤(i:Int)∧(i:Int) < (l.length:Int):=by omega
  have hfl:((l.take i).filter fun m=>!comB order m mark).length≤i:=Nat.le_trans (List.length_filter_le _ _) (by rw [List.length_take];omega)
  simp only [audit_pendings_l1.step,audit_pendings_l1.l1,audit_pendings_l1.j1,hstep.2,if_true,hstep,and_self,show (i:Int).toNat=i from rfl,committed_eq order _ mark hf,Option.bind_some,wr1 hi (by omega:l.length≤9223372036854775807)]
  refine ⟨_, ?_,rfl⟩
  rw [filter_take_snoc (z:=api_Mut.z) _ hi]
  cases hc:comB order (l.getD i api_Mut.z) mark with
  | true=>simp
  | false=>
   rw [if_neg (by decide),if_pos (by omega)]
   simp) 0 [] (Nat.zero_le _) (by simp)
 subst h2
 exact h1

theorem ref_there (order:List api_Entry) (l:List api_Mut) (c mark:Int) (hf:Few order) (hl:l.length≤1000) (hc:∀ m∈l,m.Client=c) {j:Nat} (hj:j < l.length) (acc:List spliceref04_Mut) (ha:acc.length≤1000):
  goLoop (spliceref24_Pending.step (order.map trE) c mark (l.map trM)) (.l2 (j:Int) false 0 acc)=goLoop (spliceref24_Pending.step (order.map trE) c mark (l.map trM)) (.l1 ((j+1:Nat):Int) (if comB order (l.getD j api_Mut.z) mark=true then acc else acc ++ [trM (l.getD j api_Mut.z)])):=by
 have hol:=hf.len
 have hjc:=hc _ (getD_in (z:=api_Mut.z) hj)
 have hjs:(0:Int)≤(j:Int)∧(j:Int) < (l.length:Int):=by omega
 have h:=for_fold (step:=spliceref24_Pending.step (order.map trE) c mark (l.map trM)) order api_Entry.z (fun i b=>spliceref24_Pending.S.l2 (j:Int) b (i:Int) acc) (fun b e=>b || comB1 (l.getD j api_Mut.z) mark e) (fun _ _=>True) (fun i b hi _=>by
  have hstep:(0:Int)≤(i:Int)∧(i:Int) < (order.length:Int):=by omega
  refine ⟨?_,trivial⟩
  simp only [spliceref24_Pending.step,spliceref24_Pending.l2,spliceref24_Pending.j2,List.length_map,hstep.2,if_true,hstep,hjs,and_self,show (i:Int).toNat=i from rfl,show (j:Int).toNat=j from rfl,trE_at order hi,trM_at l hj,wr1 hi (by omega:order.length≤9223372036854775807)]
  cases b with
  | true=>rfl
  | false=>
   generalize order.getD i api_Entry.z=e
   generalize l.getD j api_Mut.z=m at hjc ⊢
   unfold comB1
   rw [if_neg (by decide),show (trE e).M.Client=e.M.Client from rfl,show (trE e).M.Seq=e.M.Seq from rfl,show (trM m).Seq=m.Seq from rfl,show (trE e).Time=e.Time from rfl,hjc]
   by_cases h1:e.M.Client=c<;>by_cases h2:e.M.Seq=m.Seq<;>simp [h1,h2]) false trivial
 have e:=h.1
 have hfold:∀ (o:List api_Entry) (b:Bool),o.foldl (fun b e=>b || comB1 (l.getD j api_Mut.z) mark e) b=(b || o.any (comB1 (l.getD j api_Mut.z) mark)):=by
  intro o
  induction o with
  | nil=>intro b;simp
  | cons x o ih=>intro b;rw [List.foldl_cons,ih,List.any_cons,Bool.or_assoc]
 rw [hfold,Bool.false_or] at e
 simp only [show ((0:Nat):Int)=0 from rfl] at e
 rw [e,loop_eq]
 have hend:spliceref24_Pending.step (order.map trE) c mark (l.map trM) (.l2 (j:Int) (order.any (comB1 (l.getD j api_Mut.z) mark)) (order.length:Int) acc)=some (.inl (.l1 ((j+1:Nat):Int) (if comB order (l.getD j api_Mut.z) mark=true then acc else acc ++ [trM (l.getD j api_Mut.z)]))):=by
  simp only [spliceref24_Pending.step,spliceref24_Pending.l2,spliceref24_Pending.j1,List.length_map,Int.lt_irrefl,if_false,hjs,and_self,if_true,show (j:Int).toNat=j from rfl,trM_at l hj,wr1 hj (by omega:l.length≤9223372036854775807)]
  unfold comB
  cases order.any (comB1 (l.getD j api_Mut.z) mark) with
  | true=>rfl
  | false=>
   rw [if_neg (by decide),if_pos (by omega)]
   rfl
 rw [hend]
 rfl
theorem ref_pend_loop (order:List api_Entry) (l:List api_Mut) (c mark:Int) (hf:Few order) (hl:l.length≤1000) (hc:∀ m∈l,m.Client=c):
  goLoop (spliceref24_Pending.step (order.map trE) c mark (l.map trM)) (.l1 0 [])=some ((pendL order l mark).map trM):=by
 have key:∀ (d j:Nat),j+d=l.length→goLoop (spliceref24_Pending.step (order.map trE) c mark (l.map trM)) (.l1 (j:Int) (((l.take j).filter fun m=>!comB order m mark).map trM))=some ((pendL order l mark).map trM):=by
  intro d
  induction d with
  | zero=>
   intro j hj
   obtain rfl:j=l.length:=by omega
   rw [loop_eq]
   simp [spliceref24_Pending.step,spliceref24_Pending.l1,stk,pendL]
  | succ d ih=>
   intro j hj
   have hj':j < l.length:=by omega
   have hfl:(((l.take j).filter fun m=>!comB order m mark).map trM).length≤j:=by rw [List.length_map];exact Nat.le_trans (List.length_filter_le _ _) (by rw [List.length_take];omega)
   rw [loop_eq]
   have s1:spliceref24_Pending.step (order.map trE) c mark (l.map trM) (.l1 (j:Int) (((l.take j).filter fun m=>!comB order m mark).map trM))=some (.inl (.l2 (j:Int) false 0 (((l.take j).filter fun m=>!comB order m mark).map trM))):=by
    simp only [spliceref24_Pending.step,spliceref24_Pending.l1,List.length_map]
    rw [if_pos (by omega)]
   rw [s1]
   show goLoop (spliceref24_Pending.step (order.map trE) c mark (l.map trM)) (.l2 (j:Int) false 0 _)=_
   rw [ref_there order l c mark hf hl hc hj' _ (by omega),← ih (j+1) (by omega),filter_take_snoc (z:=api_Mut.z) _ hj']
   cases hcb:comB order (l.getD j api_Mut.z) mark<;>simp
 have:=key l.length 0 (by omega)
 simpa using this

theorem ref_Pending_eq (order:List api_Entry) (story:List api_Event) (at_ c mark:Int) (hf:Few order) (hv:FewV story):
  (Ord order→spliceref24_Pending (order.map trE) (story.map trV) at_ c mark=some ((pendL order (issL c (story.take at_.toNat)) mark).map trM))∧(¬ Ord order→spliceref24_Pending (order.map trE) (story.map trV) at_ c mark=some []):=by
 obtain ⟨r,h1,h2,h3⟩:=Order_same order hf
 have hl:=hv.len
 have hlen:(issL c (story.take at_.toNat)).length≤1000:=by
  have:=issL_len c (story.take at_.toNat)
  rw [List.length_take] at this
  omega
 constructor
 ·intro ho
  unfold spliceref24_Pending
  rw [h2,Option.bind_some,if_pos (h3.2 ho),ref_issued_eq story hv,Option.bind_some]
  exact ref_pend_loop order _ c mark hf hlen fun m hm=>(issL_mem c _ m hm).2.1
 ·intro ho
  unfold spliceref24_Pending
  rw [h2,Option.bind_some,if_neg (fun h=>ho (h3.1 h))]

def allS:List api_Span:=[⟨0,4096⟩]
theorem allS_ok:SOk allS:=SOk_one (by decide)
noncomputable def seeT (order:List api_Entry) (l:List api_Mut) (mark:Int):List api_Pair:=foldM allS (foldM allS [] (sel mark order)) (pendL order l mark)
theorem sel_len (mark:Int) (l:List api_Entry):(sel mark l).length≤l.length:=by
 unfold sel
 rw [List.length_map]
 exact List.length_filter_le _ _
theorem sel_ok {mark:Int} {l:List api_Entry} (h:okE l=true):∀ m∈sel mark l,mOk m=true:=by
 intro m hm
 unfold sel at hm
 obtain ⟨e,he,rfl⟩:=List.mem_map.1 hm
 have:=List.all_eq_true.1 h e (List.mem_filter.1 he).1
 exact this
structure SeeOk (order:List api_Entry) (l:List api_Mut):Prop where
 few:Few order
 len:order.length≤30
 ok:okE order=true
 ms:∀ m∈l,mOk m=true
 ll:l.length≤30
theorem SeeOk.base {order:List api_Entry} {l:List api_Mut} (h:SeeOk order l) (mark:Int):Tb (foldM allS [] (sel mark order))∧(foldM allS [] (sel mark order)).length≤240:=by
 have h1:=sel_len mark order
 have h2:=h.len
 have:=foldM_ok (on:=allS) (by decide) allS_ok (ms:=sel mark order) (t:=[]) Tb.nil (sel_ok h.ok) (by simp;omega)
 exact ⟨this.1,by have:=this.2;simp at this;omega⟩
theorem pend_len (order:List api_Entry) (l:List api_Mut) (mark:Int):(pendL order l mark).length≤l.length:=List.length_filter_le _ _
theorem pend_mem {order:List api_Entry} {l:List api_Mut} {mark:Int} {m:api_Mut} (h:m∈pendL order l mark):m∈l:=(List.mem_filter.1 h).1
theorem SeeOk.all {order:List api_Entry} {l:List api_Mut} (h:SeeOk order l) (mark:Int):Tb (seeT order l mark)∧(seeT order l mark).length≤480:=by
 have hb:=h.base mark
 have hp:=pend_len order l mark
 have hl:=h.ll
 have:=foldM_ok (on:=allS) (by decide) allS_ok (ms:=pendL order l mark) (t:=foldM allS [] (sel mark order)) hb.1 (fun m hm=>h.ms m (pend_mem hm)) (by omega)
 exact ⟨this.1,by have:=this.2;unfold seeT;omega⟩
theorem mOk_prs {m:api_Mut} (h:mOk m=true):m.Pairs.length≤20:=by have:=(mutIs h).len;omega
theorem sees_eq {order:List api_Entry} {l:List api_Mut} (h:SeeOk order l) (mk key mark:Int):audit_sees_l1 order ⟨l,mk⟩ key mark=some ⟨(look (seeT order l mark) key).getD 0,(look (seeT order l mark) key).isSome⟩:=by
 have hb:=h.base mark
 have hp:=pend_len order l mark
 have hl:=h.ll
 have ha:=h.all mark
 unfold audit_sees_l1 bnd
 rw [show audit_all=allS from rfl]
 simp only []
 rw [Fold_good mark h.few (by decide) allS_ok h.ok,Option.bind_some,pendings_eq order l mk mark h.few (by omega),Option.bind_some,
  Onto_good (on:=allS) (by omega) (fun m hm=>mOk_prs (h.ms m (pend_mem hm))) (by decide) hb.1 allS_ok (List.all_eq_true.2 fun m hm=>h.ms m (pend_mem hm)),Option.bind_some]
 show ((table_Get (seeT order l mark) key).bind fun v6=>some (⟨v6.1,v6.2⟩:api_Cell))=_
 rw [Get_eq _ _ (by omega) ha.1,Option.bind_some]
theorem ref_Sees_eq {order:List api_Entry} {story:List api_Event} (hv:FewV story) (at_ c key mark:Int) (ho:Ord order) (h:SeeOk order (issL c (story.take at_.toNat))):
  spliceref24_Sees (order.map trE) (story.map trV) at_ c key mark=some ⟨(look (seeT order (issL c (story.take at_.toNat)) mark) key).getD 0,(look (seeT order (issL c (story.take at_.toNat)) mark) key).isSome⟩:=by
 have hb:=h.base mark
 have hp:=pend_len order (issL c (story.take at_.toNat)) mark
 have hl:=h.ll
 have ha:=h.all mark
 unfold spliceref24_Sees bnd
 rw [show spliceref24_all=allS.map toR from rfl]
 simp only []
 rw [(ref_Fold_eq mark h.few (by decide)).1 ⟨allS_ok,h.ok⟩,Option.bind_some,(ref_Pending_eq order story at_ c mark h.few hv).1 ho,Option.bind_some,
  ref_Onto_good (on:=allS) (by omega) (fun m hm=>mOk_prs (h.ms m (pend_mem hm))) (by decide) hb.1 allS_ok (List.all_eq_true.2 fun m hm=>h.ms m (pend_mem hm)),Option.bind_some]
 show ((spliceref05_Get ((seeT order (issL c (story.take at_.toNat)) mark).map tr) key).bind fun v6=>some v6)=_
 rw [ref5_Get_eq _ _ (by omega),Option.bind_some]
end Go.SyP
