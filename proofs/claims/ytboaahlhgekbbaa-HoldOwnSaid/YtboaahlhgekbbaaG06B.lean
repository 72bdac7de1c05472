/- Hold: all that is in a queue: contract. -/
import Derived.Test.YtboaahlhgekbbaaG06A
import Derived.Test.YtboaahlhgekbbaaG06MC
import Derived.Test.YtboaahlhgekbbaaP06T
set_option linter.unusedVariables false
set_option linter.unusedSimpArgs false
namespace Go.SyP
open Go Go.Sy Go.Proofs

noncomputable def qAll (q : QL) : Option (List api_Held) := if q.l.length ≤ 1000000 then some q.l else none
theorem qAll_says (q : QL) {r : List api_Held} (H : qAll q = some r) : Says Try.prog 23 [qR q] [.ptr 0 0 0 0] [qR q, eR32 r] (.own 1 9 0 r.length) := by
  unfold qAll at H
  split at H
  · rename_i hb
    injection H with H
    subst H
    exact says_shutR (args := []) (nr_vec api_Held.nl) fun l M h hn => ⟨l, l, M, h, fun _ h => h, hn, hold_Queue_All.says ⟨⟨l⟩⟩ l M (All_q h hb)⟩
  · cases H
end Go.SyP
