/- Regions whose order is left open, by places. -/
import Derived.Test.YtkgiljggkgfkjaaSyM
set_option linter.unusedVariables false
set_option linter.unusedSimpArgs false
namespace Go.Sy

def opsAt : List Item → Array Oper
  | .code (.region _ ops _) :: _ => ops
  | _ => #[]
def isDraw : List Item → Bool
  | .code (.region _ _ true) :: _ => true
  | _ => false

section
variable {X : Ctx} {T : Tab} {f : FuncId} {k : List Item} {Q : Frame → Frame → Conf → Prop} {nt : Nat} {rows : List Row} {ops : Array Oper} {m : Nat} {base : List (Nat × AV)} {Φ : List (Option AV)}

def OpAll (X : Ctx) (f : FuncId) (k : List Item) (Q : Frame → Frame → Conf → Prop) (nt : Nat) (rows : List Row) (ops : Array Oper) (base : List (Nat × AV)) (Φ : List (Option AV)) (m : Nat) : Prop := ∀ i, i < m → OpOk X f k Q nt rows ops base Φ i
theorem op0 : OpAll X f k Q nt rows ops base Φ 0 := fun i hi => by omega
theorem opS (h : OpAll X f k Q nt rows ops base Φ m) (p : OpOk X f k Q nt rows ops base Φ m) : OpAll X f k Q nt rows ops base Φ (m + 1) := fun i hi => by
  rcases Nat.lt_or_ge i m with h1 | h1
  · exact h i h1
  · have : i = m := by omega
    subst this
    exact p

theorem ak_drawAt (hm : X.P.follows .mixedOrders = true) (m : Nat) (S : List Nat) (base : List (Nat × AV)) (Φ : List (Option AV)) {st : St} (hd : isDraw k = true) (e : st.only S = ⟨nt, base, rows⟩) (hck : drawOk (opsAt k) m (base.map (·.1)) = true)
    (hop : OpAll X f k.tail Q nt rows (opsAt k) base Φ m) (hfin : AK X f (.inRegion (opsAt k) (List.range' m ((opsAt k).size - m)) :: k.tail) Q ⟨nt, finals (opsAt k) Φ m ++ base, rows⟩) : AK X f k Q st := by
  unfold isDraw at hd
  split at hd
  · exact ak_draw hm m S base Φ e hck hop hfin
  · cases hd

/-- What an operation makes, said otherwise. -/
theorem op_goE (hT : TabOk X.P T) {i : Nat} {st' : List Nat → List (Nat × AV) → St} (e : ∀ R rest, sstep T (.inRegion ops (i :: R) :: k) ⟨nt, needOf ops base Φ i ++ rest, rows⟩ = some (.inRegion ops R :: k, st' R rest))
    (h : ∀ R rest, st' R rest = ⟨nt, updOf (dstOf ops i) ((Φ[i]?).join) (needOf ops base Φ i ++ rest), rows⟩) : OpOk X f k Q nt rows ops base Φ i := fun R rest hh => sstep_sound hT (e R rest) (by rw [h]; exact hh)
end
end Go.Sy
