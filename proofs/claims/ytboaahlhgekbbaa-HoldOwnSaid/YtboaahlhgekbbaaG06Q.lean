/- Hold: contracts of a queue as one row. -/
import Derived.Test.YtboaahlhgekbbaaG06C
import Derived.Test.YtboaahlhgekbbaaSyPtr
import Derived.Test.YtboaahlhgekbbaaP06R
set_option linter.unusedVariables false
set_option linter.unusedSimpArgs false
namespace Go.SyP
open Go Go.Sy Go.Proofs

abbrev qO (q : QL) : ObjR := swO hold_item.e hold_item.nl 95 86 89 (QI q.l)
abbrev qR (q : QL) : Row := .obj (qO q)

theorem qFind_says (q : QL) (c s : Int) : Says Try.prog 26 [qR q] [.ptr 0 0 0 0, .i c, .i s] [qR q] (.tup [.d (eG32 (qFind q c s).1), .b (qFind q c s).2]) :=
  says_shut (args := [.i c, .i s]) (fun _ => rfl) (.tup (.cons (.d (.agg (api_Held.nl _))) (.cons (.d (.v _)) .nil))) fun l M h hn => ⟨l, l, M, h, fun _ h => h, hn, hold_Queue_Find.says ⟨⟨l⟩⟩ c s l M (Find_q h c s)⟩
theorem qFinal_says (q : QL) (c s t : Int) : Says Try.prog 13 [qR q] [.ptr 0 0 0 0, .i c, .i s, .i t] [qR (qFinal q c s t).2] (.i (qFinal q c s t).1) :=
  says_shut (args := [.i c, .i s, .i t]) (fun _ => rfl) (.d (.v _)) fun l M h hn => by
    obtain ⟨l', M', h1, h2, h3⟩ := Final_q h c s t
    exact ⟨l', l, M', h2, h3, h2.hs.nd, hold_Queue_Final.says ⟨⟨l⟩⟩ c s t l M h1⟩
theorem qDrop_says (q : QL) (c s : Int) : Says Try.prog 19 [qR q] [.ptr 0 0 0 0, .i c, .i s] [qR (qDrop q c s).2] (.i (qDrop q c s).1) :=
  says_shut (args := [.i c, .i s]) (fun _ => rfl) (.d (.v _)) fun l M h hn => by
    obtain ⟨l', M', h1, h2, h3⟩ := Drop_q h c s
    exact ⟨l', l, M', h2, h3, h2.hs.nd, hold_Queue_Drop.says ⟨⟨l⟩⟩ c s l M h1⟩
theorem qPop_says (q : QL) : Says Try.prog 15 [qR q] [.ptr 0 0 0 0] [qR (qPop q).2.2] (.tup [.d (eG32 (qPop q).1), .b (qPop q).2.1]) :=
  says_shut (args := []) (fun _ => rfl) (.tup (.cons (.d (.agg (api_Held.nl _))) (.cons (.d (.v _)) .nil))) fun l M h hn => by
    obtain ⟨l', M', h1, h2, h3⟩ := Pop_q h
    exact ⟨l', l, M', h2, h3, h2.hs.nd, hold_Queue_Pop.says ⟨⟨l⟩⟩ l M h1⟩
theorem qLen_says (q : QL) : Says Try.prog 14 [qR q] [.ptr 0 0 0 0] [qR q] (.i (q.l.length : Int)) :=
  says_shut (args := []) (fun _ => rfl) (.d (.v _)) fun l M h hn => ⟨l, l, M, h, fun _ h => h, hn, by
    have := hold_Queue_Len.says ⟨⟨l⟩⟩ l M
    rw [len_q h] at this
    exact this⟩
theorem qFloor_says (q : QL) (c : Int) : Says Try.prog 20 [qR q] [.ptr 0 0 0 0, .i c] [qR q] (.i (qFloor q c)) :=
  says_shut (args := [.i c]) (fun _ => rfl) (.d (.v _)) fun l M h hn => ⟨l, l, M, h, fun _ h => h, hn, hold_Queue_Floor.says ⟨⟨l⟩⟩ c l M (floor_q h c)⟩
end Go.SyP
