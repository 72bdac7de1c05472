/- Plain functions, printed by gen24.py. -/
import Derived.Test.YtdndobkfnmommaaG24P
import Derived.Test.YtdndobkfnmommaaSyPast
set_option linter.unusedVariables false
namespace Go.SyP
open Go Go.Sy
abbrev PT:=Int→List api_Mut × Int

noncomputable def audit_why.j1 (a2:api_Event) (P:PT):Option (Int × PT):=
 some (0,updP P a2.Client ((P a2.Client).1,a2.Mark))

noncomputable def audit_why (a1:List api_Entry) (a2:api_Event) (P:PT):Option (Int × PT):=
 (audit_formed a2).bind fun v1=>
 if v1=true then
  if a2.Kind=1 then
   if a2.M.Seq=(IntKind.wrap .i64 (((P a2.Client).1.length:Int)+1)) then
    if a2.M.Pairs.length * 16≤140737488355328 then
     if (((P a2.Client).1).length+1) * 72≤140737488355328 then
      some (0,updP P a2.Client (((P a2.Client).1) ++ [a2.M],(P a2.Client).2))
     else none
    else none
   else
    some (2,P)
  else
   if a2.Mark < ((P a2.Client).2) then
    some (3,P)
   else
    (audit_sees_l1 a1 (⟨(P a2.Client).1,a2.Mark⟩:audit_done) a2.Key a2.Mark).bind fun v2=>
    if v2.Val=a2.Cell.Val then
     if v2.Some=true then
      if a2.Cell.Some=true then
       audit_why.j1 a2 P
      else
       some (4,updP P a2.Client ((P a2.Client).1,a2.Mark))
     else
      if a2.Cell.Some=true then
       some (4,updP P a2.Client ((P a2.Client).1,a2.Mark))
      else
       audit_why.j1 a2 P
    else
     if v2.Some=true then
      if a2.Cell.Some=true then
       some (4,updP P a2.Client ((P a2.Client).1,a2.Mark))
      else
       some (4,updP P a2.Client ((P a2.Client).1,a2.Mark))
     else
      if a2.Cell.Some=true then
       some (4,updP P a2.Client ((P a2.Client).1,a2.Mark))
      else
       some (4,updP P a2.Client ((P a2.Client).1,a2.Mark))
 else
  some (1,P)

inductive audit_Check.S where
 | l1 (x1_17:Int) (x1_r0:PT) (x1_r3:List api_Finding)

noncomputable def audit_Check.j1 (x1_17:Int) (v2:Int × PT) (y1_r3:List api_Finding):Option (audit_Check.S ⊕ ((List api_Finding) × Int)):=
 some (.inl (.l1 (IntKind.wrap .i64 (x1_17+1)) v2.2 y1_r3))

noncomputable def audit_Check.l1 (a0:List api_Entry) (a1:List api_Event) (x1_17:Int) (x1_r0:PT) (x1_r3:List api_Finding):Option (audit_Check.S ⊕ ((List api_Finding) × Int)):=
 if x1_17 < (a1.length:Int) then
  if 0≤x1_17∧x1_17 < (a1.length:Int) then
   (audit_why a0 (a1.getD x1_17.toNat api_Event.z) x1_r0).bind fun v2=>
   if v2.1=0 then
    audit_Check.j1 x1_17 v2 x1_r3
   else
    if (x1_r3.length+1) * 16≤140737488355328 then
     audit_Check.j1 x1_17 v2 (x1_r3 ++ [(⟨x1_17,v2.1⟩:api_Finding)])
    else none
  else none
 else
  some (.inr (x1_r3,0))

noncomputable def audit_Check.step (a0:List api_Entry) (a1:List api_Event):audit_Check.S→Option (audit_Check.S ⊕ ((List api_Finding) × Int))
 | .l1 x1_17 x1_r0 x1_r3=>audit_Check.l1 a0 a1 x1_17 x1_r0 x1_r3

noncomputable def audit_Check (a0:List api_Entry) (a1:List api_Event):Option ((List api_Finding) × Int):=
 (audit_Order a0).bind fun v1=>
 if v1=true then
  goLoop (audit_Check.step a0 a1) (.l1 0 (fun _=>([],0):PT) ([]:List api_Finding))
 else
  some (([]:List api_Finding),1)
end Go.SyP
