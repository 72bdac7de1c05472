/- slices.Grow of nil as a contract. -/
import Derived.Test.YtboaahlhgekbbaaSyT
import Derived.Shelf.Spec.SlicesGrow
set_option linter.unusedVariables false
set_option linter.unusedSimpArgs false
namespace Go.Sy
open Go.Proofs Go.Shelf Go.Sort Go.Lib

theorem ak_eq {X : Ctx} {f : FuncId} {k : List Item} {Q : Frame → Frame → Conf → Prop} {n m : Nat} (e : n = m) (F : Nat → St) (h : AK X f k Q (F m)) : AK X f k Q (F n) := by
  subst e
  exact h

theorem hands_one {rows : List Row} {i : Nat} {a : Row} (h1 : rows[i]? = some (renR (moveTo [i] rows.length) a)) (hl : a.live = true) : Hands rows [i] [a] := by
  refine ⟨by simp, rfl, ?_⟩
  intro j id r e1 e2
  match j, e1, e2 with
  | 0, e1, e2 =>
    simp at e1 e2
    subst e1
    subst e2
    exact ⟨h1, hl⟩

theorem at_new (w : World) (o : Obj) : (w.alloc o).heap[w.heap.size]? = some o := by
  exact heap_alloc_new w o

theorem grow_says {P : Program} {ρ : Ren} {α : Type} (L : Lays8.n4 P ρ) (z : α) (e : α → List DV) (k : Nat) (i0 : TypeInfo) (zv : Value) (hi0 : P.info? (ρ.t 25) = some i0) (hz0 : i0.zero = some zv) (hs0 : 0 < k) (hk : i0.size = k) (hzc : zv.cells.size = k) {by' : Nat} (hby : i0.bytes = by')
    (nr : ∀ x, NLs (e x)) (n : Int) (h0 : 0 ≤ n) (hb : n * (by' : Int) ≤ 140737488355328) (hn : n ≤ 4611686018427387904) :
    Says P (ρ.f 4) [] [.d (.v (.slice none 0 0)), .d (.v (.int .i64 n))] [.flat false k (ρ.t 25) ([] : List α).length (vec e z [])] (.own 0 k 0 ([] : List α).length) := by
  intro X vs hP hF hrel hargs
  subst hP
  subst hk
  obtain ⟨m, rfl⟩ : ∃ m : Nat, n = m := ⟨n.toNat, by omega⟩
  have hl0 : X.μ0 = [] := by
    have := hrel.len
    exact List.length_eq_zero_iff.1 this
  cases hargs with
  | cons ha hs =>
    cases hs with
    | cons hf hnn =>
      cases hnn
      have ha := ha.v_inv
      have hf := hf.v_inv
      subst ha
      subst hf
      have hnr : NR (.flat false i0.size (ρ.t 25) ([] : List α).length (vec e z [])) := nr_vec nr
      rcases Nat.eq_zero_or_pos m with h | h
      · subst h
        refine (Any8.slices_Grow_room L none 0 0 0 X.w0 (Nat.le_refl _) (by omega) (by omega) (by omega)).mono ?_
        rintro e0 w' ⟨rfl, rfl⟩
        have hv := HRel.virt hrel (r := .flat false i0.size (ρ.t 25) ([] : List α).length (vec e z [])) rfl
        simp only [Conf.virt, hl0, List.nil_append] at hv
        refine ⟨_, [none], rfl, hv, ?_, .own0 rfl⟩
        intro j ob r e1 e2
        refine (hv.rel j ob r e1 e2).perm (fun _ h => ⟨rfl, h⟩) ?_
        have := List.mem_of_getElem? e2
        simp only [List.mem_singleton] at this
        subst this
        exact hnr
      · have hbig : (0 + m) * i0.bytes ≤ 140737488355328 := by
          rw [hby, Nat.zero_add]
          have e1 : ((m * by' : Nat) : Int) = (m : Int) * (by' : Int) := Int.natCast_mul m by'
          have e2 : ((m * by' : Nat) : Int) ≤ 140737488355328 := by rw [e1]; exact hb
          exact Int.ofNat_le.1 e2
        have main := Any8.slices_Grow_grow L i0 zv hi0 hz0 hs0 none 0 0 m [] X.w0 (Nat.le_refl _) (by omega) hbig (by omega) (by simp) (fun _ => rfl) (fun a ha => by cases ha)
        refine main.mono ?_
        rintro e0 w' ⟨rfl, rfl⟩
        have hG := grownCap_ge X.w0 (0 + m) 0 (ρ.t 25)
        have hM := grownCap_le_maxLen X.w0 (0 + m) 0 (ρ.t 25) (by unfold maxLen; omega)
        generalize grownCap X.w0 (0 + m) 0 (ρ.t 25) = G at hG hM ⊢
        have hzs : ∀ q, (Builtin.zeroCells zv.cells q).size = q * i0.size := fun q => by
          rw [← hzc]
          simp [Builtin.zeroCells]
        have hd := HRel.drew hrel
        have hp := HRel.push hd (o := .cells (([] : List Value).toArray ++ Builtin.zeroCells zv.cells (0 + m - 0) ++ Builtin.zeroCells zv.cells (G - (0 + m))) (ρ.t 25)) (r := .flat false i0.size (ρ.t 25) ([] : List α).length (vec e z [])) ⟨_, fun _ => [], at_new _ _, by simp, fun i hi => by simp at hi, fun i hi => by simp at hi, fun i j v hi => by simp at hi⟩
        simp only [Conf.push, Conf.drew, hl0, List.nil_append] at hp
        refine ⟨_, _, rfl, hp, ?_, ?_⟩
        · intro j ob r e1 e2
          refine (hp.rel j ob r e1 e2).perm (fun _ h => ⟨rfl, h⟩) ?_
          have := List.mem_of_getElem? e2
          simp only [List.mem_singleton] at this
          subst this
          exact hnr
        · have := @AVR.own (X.w0.drew.alloc (.cells (([] : List Value).toArray ++ Builtin.zeroCells zv.cells (0 + m - 0) ++ Builtin.zeroCells zv.cells (G - (0 + m))) (ρ.t 25))) (Conf.okR X ⟨[some X.w0.drew.heap.size], [.flat false i0.size (ρ.t 25) ([] : List α).length (vec e z [])], X.w0.drew.alloc (.cells (([] : List Value).toArray ++ Builtin.zeroCells zv.cells (0 + m - 0) ++ Builtin.zeroCells zv.cells (G - (0 + m))) (ρ.t 25))⟩) [some X.w0.drew.heap.size] 0 i0.size 0 0 X.w0.drew.heap.size G _ (ρ.t 25) rfl (at_new _ _) (by
            simp only [Array.size_append, hzs, List.size_toArray, List.length_nil, Nat.zero_add, Nat.sub_zero]
            rw [← Nat.add_mul]
            congr 1
            omega) (Nat.zero_le _) hM
          simpa using this
end Go.Sy
