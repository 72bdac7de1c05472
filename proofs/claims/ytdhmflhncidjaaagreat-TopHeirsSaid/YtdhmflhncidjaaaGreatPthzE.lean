/- Tables: the document's answer. -/
import Derived.Test.YtdhmflhncidjaaaGreatPthzA
set_option linter.unusedVariables false
set_option linter.unusedSimpArgs false
namespace Go.SyP
open Go Go.Sy Sets
def Qig (m:Qp) (k:Int):Bool:=if m.Kind=2 then decide (m.Over.Lo<=k) && decide (k < m.Over.Hi) else (look m.Pairs k).isSome
def within (v:Int):Int:=if v > 1099511627776 then 1099511627776 else if v < -1099511627776 then -1099511627776 else v
theorem Qrc (v:Int):-1099511627776<=within v/\within v<=1099511627776:=by
 unfold within
 split
 ·omega
 split<;>omega
def Qld (m:Qp) (k:Int) (c:Option Int):Option (Option Int):=
 if m.Kind=2 then some none
 else if m.Kind=3 then (if c.getD 0+(m.Pairs.getD 0 Qa.z).Val < 0\/c.getD 0+(m.Pairs.getD 0 Qa.z).Val > 1099511627776 then none else some (some (c.getD 0+(m.Pairs.getD 0 Qa.z).Val)))
 else if m.Kind=4 then (if c.getD 1099511627777=m.Old then some (some (m.Pairs.getD 0 Qa.z).Val) else none)
 else if m.Kind=5 then (if k=(m.Pairs.getD 0 Qa.z).Key then some (some (within (c.getD 0 - (m.Pairs.getD 0 Qa.z).Val))) else some (some (within (c.getD 0+(m.Pairs.getD 0 Qa.z).Val))))
 else some (match look m.Pairs k with | some v=>some v | none=>c)
structure Qxe (m:Qp):Prop where
 ok:∀ x∈m.Pairs,okP x
 len:m.Pairs.length<=8
 del:m.Kind=2->m.Pairs=[]
 put:m.Kind=1->Up m.Pairs
 one:m.Kind=3\/m.Kind=4->∃ p,m.Pairs=[p]
 two:m.Kind=5->∃ p q,m.Pairs=[p,q]/\p.Key≠q.Key/\p.Val=q.Val
 kind:m.Kind=1\/m.Kind=2\/m.Kind=3\/m.Kind=4\/m.Kind=5
 Qzv:m.Kind=2->Ok (pa m.Over)
theorem Ql5 {m:Qp} (h:mOk m=true):Qxe m:=by
 unfold mOk at h
 simp only [Bool.and_eq_true,decide_eq_true_eq] at h
 have hk:=h.2
 clear h
 unfold Qro at hk
 have hp:∀ {lo hi},Qif m.Pairs lo hi=true->(∀ x∈m.Pairs,okP x)/\lo<=(m.Pairs.length:Int)/\(m.Pairs.length:Int)<=hi:=fun h=>by
  have h2:=Qtc h
  unfold Qif at h
  simp only [Bool.and_eq_true] at h
  exact ⟨Wmv.1 h.2,h2⟩
 by_cases k2:m.Kind=2
 ·rw [if_pos k2] at hk
  simp only [Bool.and_eq_true,decide_eq_true_eq] at hk
  have e:=List.length_eq_zero_iff.1 hk.1.1
  exact ⟨by simp [e],by simp [e],fun _=>e,fun h=>by omega,fun h=>by omega,fun h=>by omega,by omega,fun _=>hk.2⟩
 rw [if_neg k2] at hk
 simp only [Bool.and_eq_true,decide_eq_true_eq] at hk
 have hk:=hk.2
 by_cases k4:m.Kind=4
 ·rw [if_pos k4] at hk
  simp only [Bool.and_eq_true] at hk
  have h:=hp hk.1
  have:∃ p,m.Pairs=[p]:=List.length_eq_one_iff.1 (by omega)
  exact ⟨h.1,by omega,fun h=>by omega,fun h=>by omega,fun _=>this,fun h=>by omega,by omega,fun h=>by omega⟩
 rw [if_neg k4] at hk
 simp only [Bool.and_eq_true,decide_eq_true_eq] at hk
 have hk:=hk.2
 by_cases k1:m.Kind=1
 ·rw [if_pos k1] at hk
  simp only [Bool.and_eq_true,decide_eq_true_eq] at hk
  have h:=hp hk.1
  exact ⟨h.1,by omega,fun h=>by omega,fun _=>hk.2,fun h=>by omega,fun h=>by omega,by omega,fun h=>by omega⟩
 rw [if_neg k1] at hk
 by_cases k3:m.Kind=3
 ·rw [if_pos k3] at hk
  have h:=hp hk
  have:∃ p,m.Pairs=[p]:=List.length_eq_one_iff.1 (by omega)
  exact ⟨h.1,by omega,fun h=>by omega,fun h=>by omega,fun _=>this,fun h=>by omega,by omega,fun h=>by omega⟩
 rw [if_neg k3] at hk
 by_cases k5:m.Kind=5
 ·rw [if_pos k5] at hk
  simp only [Bool.and_eq_true,decide_eq_true_eq] at hk
  have h:=hp hk.1
  refine ⟨h.1,by omega,fun h=>by omega,fun h=>by omega,fun h=>by omega,fun _=>?_,by omega,fun h=>by omega⟩
  match hm:m.Pairs,h.2 with
  | [p,q],_=>
   rw [hm] at hk
   exact ⟨p,q,rfl,hk.2.1,hk.2.2.1⟩
  | [],h=>simp at h
  | [p],h=>simp at h
  | p :: q :: r :: l,h=>simp at h;omega
 rw [if_neg k5] at hk
 cases hk
end Go.SyP
namespace Go.SyP
open Go Go.Sy Sets
def Qnv (l:List Qa) (m:Qp) (on:List Qb) (k:Int):Option (Option Int):=if Qig m k && hasB on k then Qld m k (look l k) else some (look l k)
structure Qma (l:List Qa) (m:Qp) (on:List Qb) (r:List Qa × Bool):Prop where
 done:r.2=true->Up r.1/\∀ j,Qnv l m on j=some (look r.1 j)
 fail:r.2=false->r.1=l/\∃ k,Qnv l m on k=none
end Go.SyP
