/- Sets of keys as lists of spans: the plain mathematics. No program in sight. -/
set_option linter.unusedVariables false
namespace Go.SyP.Sets

abbrev Sp:=Int × Int
def Ok (x:Sp):Prop:=0≤x.1∧x.1 < x.2∧x.2≤4096
instance (x:Sp):Decidable (Ok x):=inferInstanceAs (Decidable (_∧_∧_))
def mem (l:List Sp) (k:Int):Prop:=∃ x∈l,x.1≤k∧k < x.2
structure Canon (l:List Sp):Prop where
 ok:∀ x∈l,Ok x
 apart:l.Pairwise fun x y=>x.2 < y.1

theorem Canon.nil:Canon []:=⟨fun x h=>by simp at h,.nil⟩
def keysOf (m:Nat→Bool):List Bool:=(List.range 4096).map m
def memB (l:List Sp) (k:Int):Bool:=l.any fun x=>decide (x.1≤k) && decide (k < x.2)
def keys (l:List Sp):List Bool:=keysOf fun k=>memB (l.filter fun x=>decide (Ok x)) k

def cut (x y:Sp):Option Sp:=if max x.1 y.1 < min x.2 y.2 then some (max x.1 y.1,min x.2 y.2) else none
def both (a b:List Sp):List Sp:=a.flatMap fun x=>b.filterMap fun y=>cut x y
def size (l:List Sp):Int:=l.foldr (fun x n=>x.2 - x.1+n) 0
end Go.SyP.Sets
