/- What is pending, and what a client must see. -/
import Derived.Test.YtdndobkfnmommaaGreatP24zN
set_option linter.unusedVariables false
set_option linter.unusedSimpArgs false
namespace Go.SyP
open Go Go.Sy Sets
def Qzf (m:Qn) (mark:Int) (e:Qe):Bool:=decide (e.M.Client=m.Client/\e.M.Seq=m.Seq/\e.Time<=mark)
def Qwf (order:List Qe) (m:Qn) (mark:Int):Bool:=order.any (Qzf m mark)
def Ql9 (order:List Qe) (l:List Qn) (mark:Int):List Qn:=l.filter fun m=>!Qwf order m mark
theorem Qwg (order:List Qe) (m:Qn) (mark:Int) (hf:Few order):Qfv order m mark=some (Qwf order m mark):=by
 unfold Qfv
 rw [Qt7 order (by have:=hf.len;omega) _ (Qzf m mark) (fun e he=>by
  unfold Qb1 Qb1.j1 Qzf
  congr 1
  by_cases h1:e.M.Client=m.Client<;>by_cases h2:e.M.Seq=m.Seq<;>simp [h1,h2]),Option.bind_some]
 rfl
theorem Qri {α:Type} (p:α->Bool) {l:List α} {z:α} {i:Nat} (h:i < l.length):(l.take (i+1)).filter p=if p (l.getD i z)=true then (l.take i).filter p ++ [l.getD i z] else (l.take i).filter p:=by
 rw [take_at (z:=z) h,List.filter_append]
 by_cases hp:p (l.getD i z)=true
 ·rw [if_pos hp,List.filter_cons_of_pos hp,List.filter_nil]
 rw [if_neg hp,List.filter_cons_of_neg hp,List.filter_nil,List.append_nil]
theorem Qxz (order:List Qe) (l:List Qn) (mk mark:Int) (hf:Few order) (hl:l.length<=1000):Xz order ⟨l,mk⟩ mark=some (Ql9 order l mark):=by
 unfold Xz
 obtain ⟨r,h1,h2⟩:=Qbj (step:=Xz.step order ⟨l,mk⟩ mark) (n:=l.length) (fun i t=>Xz.S.l1 (i:Int) t) (fun i t=>t=(l.take i).filter fun m=>!Qwf order m mark) (fun r=>r=Ql9 order l mark) (by
  rintro t rfl
  exact ⟨Ql9 order l mark,by rw [Qbt (Nat.le_refl _)];simp [Xz.step,Xz.l1,Ql9],rfl⟩) (by
  rintro i t hi rfl
  left
  have Yj:(0:Int)<=(i:Int)/\(i:Int) < (l.length:Int):=by omega
  have hfl:((l.take i).filter fun m=>!Qwf order m mark).length<=i:=Nat.le_trans (List.length_filter_le _ _) (by rw [List.length_take];omega)
  simp only [Xz.step,Xz.l1,Xz.j1,Yj.2,if_true,Yj,and_self,show (i:Int).toNat=i from rfl,Qwg order _ mark hf,Option.bind_some,wr1 hi (by omega:l.length<=9223372036854775807)]
  refine ⟨_, ?_,rfl⟩
  rw [Qri (z:=Qn.z) _ hi]
  cases hc:Qwf order (l.getD i Qn.z) mark with
  | true=>simp
  | false=>
   rw [if_neg (by decide),if_pos (by omega)]
   simp) 0 [] (Nat.zero_le _) (by simp)
 subst h2
 exact h1
def Qi3:List Qb:=[⟨0,4096⟩]
theorem Qmt:SOk Qi3:=Qmo (by decide)
noncomputable def Qlq (order:List Qe) (l:List Qn) (mark:Int):List Qa:=foldM Qi3 (foldM Qi3 [] (Zi mark order)) (Ql9 order l mark)
theorem Wh9 (mark:Int) (l:List Qe):(Zi mark l).length<=l.length:=by
 unfold Zi
 rw [List.length_map]
 exact List.length_filter_le _ _
theorem Qs1 {mark:Int} {l:List Qe} (h:okE l=true):∀ m∈Zi mark l,mOk m=true:=by
 intro m hm
 unfold Zi at hm
 obtain ⟨e,he,rfl⟩:=List.mem_map.1 hm
 have:=List.all_eq_true.1 h e (List.mem_filter.1 he).1
 exact this
structure Qnb (order:List Qe) (l:List Qn):Prop where
 few:Few order
 len:order.length<=30
 ok:okE order=true
 ms:∀ m∈l,mOk m=true
 ll:l.length<=30
theorem Qnb.base {order:List Qe} {l:List Qn} (h:Qnb order l) (mark:Int):Tb (foldM Qi3 [] (Zi mark order))/\(foldM Qi3 [] (Zi mark order)).length<=240:=by
 have h1:=Wh9 mark order
 have h2:=h.len
 have:=Qrk (on:=Qi3) (by decide) Qmt (ms:=Zi mark order) (t:=[]) Tb.nil (Qs1 h.ok) (by simp;omega)
 exact ⟨this.1,by have:=this.2;simp at this;omega⟩
theorem Qw6 (order:List Qe) (l:List Qn) (mark:Int):(Ql9 order l mark).length<=l.length:=List.length_filter_le _ _
theorem Qru {order:List Qe} {l:List Qn} {mark:Int} {m:Qn} (h:m∈Ql9 order l mark):m∈l:=(List.mem_filter.1 h).1
theorem Qnb.all {order:List Qe} {l:List Qn} (h:Qnb order l) (mark:Int):Tb (Qlq order l mark)/\(Qlq order l mark).length<=480:=by
 have hb:=h.base mark
 have hp:=Qw6 order l mark
 have hl:=h.ll
 have:=Qrk (on:=Qi3) (by decide) Qmt (ms:=Ql9 order l mark) (t:=foldM Qi3 [] (Zi mark order)) hb.1 (fun m hm=>h.ms m (Qru hm)) (by omega)
 exact ⟨this.1,by have:=this.2;unfold Qlq;omega⟩
theorem Whx {m:Qn} (h:mOk m=true):m.Pairs.length<=20:=by have:=(Qnz h).len;omega
theorem Wh8 {order:List Qe} {l:List Qn} (h:Qnb order l) (mk key mark:Int):Qde order ⟨l,mk⟩ key mark=some ⟨(look (Qlq order l mark) key).getD 0,(look (Qlq order l mark) key).isSome⟩:=by
 have hb:=h.base mark
 have hp:=Qw6 order l mark
 have hl:=h.ll
 have ha:=h.all mark
 unfold Qde bnd
 rw [show Qex=Qi3 from rfl]
 simp only []
 rw [Qt1 mark h.few (by decide) Qmt h.ok,Option.bind_some,Qxz order l mk mark h.few (by omega),Option.bind_some,
  Wbb (on:=Qi3) (by omega) (fun m hm=>Whx (h.ms m (Qru hm))) (by decide) hb.1 Qmt (List.all_eq_true.2 fun m hm=>h.ms m (Qru hm)),Option.bind_some]
 show ((Qg1 (Qlq order l mark) key).bind fun v6=>some (⟨v6.1,v6.2⟩:Ze))=_
 rw [Wba _ _ (by omega) ha.1,Option.bind_some]
end Go.SyP
