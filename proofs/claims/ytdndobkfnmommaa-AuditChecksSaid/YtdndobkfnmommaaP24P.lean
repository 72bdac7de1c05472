/- What is wrong with a story: audit's findings are the document's. -/
import Derived.Test.YtdndobkfnmommaaP24O
set_option linter.unusedVariables false
set_option linter.unusedSimpArgs false
namespace Go.SyP
open Go Go.Sy Sets

def marS (c : Int) (mk : Int) (e : api_Event) : Int := if (decide (e.Kind = 2 ∧ e.Client = c) && formB e) = true then max mk e.Mark else mk
def marL (c : Int) (l : List api_Event) : Int := l.foldl (marS c) 0
theorem marL_snoc (c : Int) (l : List api_Event) (e : api_Event) : marL c (l ++ [e]) = marS c (marL c l) e := by simp [marL]
theorem marL_gt (c x : Int) (hx : 0 ≤ x) (l : List api_Event) : x < marL c l ↔ ∃ e ∈ l, e.Kind = 2 ∧ e.Client = c ∧ formB e = true ∧ x < e.Mark := by
 have key : ∀ (l : List api_Event) (mk : Int), x < l.foldl (marS c) mk ↔ x < mk ∨ ∃ e ∈ l, e.Kind = 2 ∧ e.Client = c ∧ formB e = true ∧ x < e.Mark := by
  intro l
  induction l with
  | nil => intro mk; simp
  | cons e l ih =>
   intro mk
   rw [List.foldl_cons, ih]
   unfold marS
   by_cases h : (decide (e.Kind = 2 ∧ e.Client = c) && formB e) = true
   ·rw [if_pos h]
    simp only [Bool.and_eq_true, decide_eq_true_eq] at h
    have : (x < max mk e.Mark) ↔ x < mk ∨ x < e.Mark := by omega
    rw [this]
    simp only [List.mem_cons, exists_eq_or_imp, h.1.1, h.1.2, h.2, true_and, or_assoc]
   ·rw [if_neg h]
    simp only [Bool.and_eq_true, decide_eq_true_eq, not_and] at h
    simp only [List.mem_cons, exists_eq_or_imp]
    constructor
    ·rintro (h1 | h1)
     ·exact .inl h1
     ·exact .inr (.inr h1)
    ·rintro (h1 | ⟨h1, h2, h3, _⟩ | h1)
     ·exact .inl h1
     ·exact absurd h3 (h ⟨h1, h2⟩)
     ·exact .inr h1
 have := key l 0
 unfold marL
 rw [this]
 constructor
 ·rintro (h | h)
  ·omega
  ·exact h
 ·exact .inr

noncomputable def seeC (order : List api_Entry) (l : List api_Mut) (key mark : Int) : api_Cell := ⟨(look (seeT order l mark) key).getD 0, (look (seeT order l mark) key).isSome⟩
noncomputable def whyV (order : List api_Entry) (l : List api_Mut) (mk : Int) (e : api_Event) : Int :=
 if formB e = true then
  if e.Kind = 1 then (if e.M.Seq = (l.length : Int) + 1 then 0 else 2)
  else if e.Mark < mk then 3
  else if (seeC order l e.Key e.Mark).Val = e.Cell.Val ∧ (seeC order l e.Key e.Mark).Some = e.Cell.Some then 0 else 4
 else 1
def past (l : List api_Event) : PT := fun c => (issL c l, marL c l)
theorem past_nil : past [] = fun _ => ([], 0) := rfl
theorem past_same {l : List api_Event} {e : api_Event} (h1 : ∀ c, issC c (issL c l) e = false) (h2 : ∀ c, marS c (marL c l) e = marL c l) : past (l ++ [e]) = past l := by
 funext c
 unfold past
 rw [issL_snoc, marL_snoc, h2]
 unfold issS
 rw [h1]
 rfl
theorem form2 {e : api_Event} (h : formB e = true) (k1 : ¬ e.Kind = 1) : e.Kind = 2 ∧ 0 ≤ e.Mark ∧ 1 ≤ e.Client := by
 unfold formB at h
 rw [if_neg k1] at h
 by_cases k2 : e.Kind = 2
 ·rw [if_pos k2] at h
  simp only [Bool.and_eq_true, decide_eq_true_eq] at h
  exact ⟨k2, h.2.1.2.2.2.2, h.2.1.1⟩
 ·rw [if_neg k2] at h; cases h

theorem why_eq (order : List api_Entry) (l : List api_Event) (e : api_Event) (hl : l.length ≤ 29) (hp : e.M.Pairs.length ≤ 10) (hs : SeeOk order (issL e.Client l)) :
  audit_why order e (past l) = some (whyV order (issL e.Client l) (marL e.Client l) e, past (l ++ [e])) := by
 have hil := issL_len e.Client l
 unfold audit_why whyV
 rw [formed_eq e (by omega), Option.bind_some]
 cases hfo : formB e with
 | false =>
  rw [if_neg (by decide), if_neg (by decide), past_same (fun c => by simp [issC, hfo]) (fun c => by simp [marS, hfo])]
 | true =>
  rw [if_pos rfl, if_pos rfl]
  have hP : past l e.Client = (issL e.Client l, marL e.Client l) := rfl
  rw [hP]
  have hw : IntKind.wrap .i64 (((issL e.Client l).length : Int) + 1) = ((issL e.Client l).length : Int) + 1 := by rw [wr (by omega)]
  by_cases k1 : e.Kind = 1
  ·rw [if_pos k1, if_pos k1]
   simp only [hw]
   have hm : ∀ c, marS c (marL c l) e = marL c l := fun c => by simp [marS, k1]
   by_cases k2 : e.M.Seq = ((issL e.Client l).length : Int) + 1
   ·rw [if_pos k2, if_pos k2, if_pos (by omega), if_pos (by omega)]
    congr 2
    funext c
    unfold past updP
    rw [issL_snoc, marL_snoc, hm]
    by_cases hc : c = e.Client
    ·subst hc
     rw [if_pos rfl]
     unfold issS
     rw [if_pos (by simp [issC, k1, hfo, k2])]
    ·rw [if_neg hc]
     unfold issS
     rw [if_neg (by simp [issC, Ne.symm hc])]
   ·rw [if_neg k2, if_neg k2, past_same (fun c => by
     by_cases hc : e.Client = c
     ·subst hc; simp [issC, k2]
     ·simp [issC, hc]) hm]
  ·rw [if_neg k1, if_neg k1]
   obtain ⟨f1, f2, f3⟩ := form2 hfo k1
   have hi : ∀ c, issC c (issL c l) e = false := fun c => by simp [issC, k1]
   by_cases k2 : e.Mark < marL e.Client l
   ·rw [if_pos k2, if_pos k2, past_same hi fun c => by
     unfold marS
     by_cases hc : e.Client = c
     ·subst hc; rw [if_pos (by simp [f1, hfo])]; omega
     ·rw [if_neg (by simp [hc])]]
   ·rw [if_neg k2, if_neg k2]
    simp only
    rw [sees_eq hs, Option.bind_some]
    have hpast : updP (past l) e.Client (issL e.Client l, e.Mark) = past (l ++ [e]) := by
     funext c
     have hiss : ∀ c, issS c (issL c l) e = issL c l := fun c => by unfold issS; rw [hi]; rfl
     unfold past updP
     rw [issL_snoc, marL_snoc, hiss]
     by_cases hc : c = e.Client
     ·subst hc
      rw [if_pos rfl]
      unfold marS
      rw [if_pos (by simp [f1, hfo]), show max (marL e.Client l) e.Mark = e.Mark by omega]
     ·rw [if_neg hc]
      unfold marS
      rw [if_neg (by simp [Ne.symm hc])]
    unfold audit_why.j1
    simp only [hP]
    rw [hpast]
    show _ = some (if (seeC order (issL e.Client l) e.Key e.Mark).Val = e.Cell.Val ∧ (seeC order (issL e.Client l) e.Key e.Mark).Some = e.Cell.Some then (0 : Int) else 4, _)
    change (if (seeC order (issL e.Client l) e.Key e.Mark).Val = e.Cell.Val then (if (seeC order (issL e.Client l) e.Key e.Mark).Some = true then _ else _) else (if (seeC order (issL e.Client l) e.Key e.Mark).Some = true then _ else _)) = _
    generalize seeC order (issL e.Client l) e.Key e.Mark = C
    by_cases h1 : C.Val = e.Cell.Val <;> by_cases h2 : C.Some = true <;> by_cases h3 : e.Cell.Some = true <;> simp [h1, h2, h3]

noncomputable def wAt (order : List api_Entry) (story : List api_Event) (i : Nat) : Int :=
 whyV order (issL (story.getD i api_Event.z).Client (story.take i)) (marL (story.getD i api_Event.z).Client (story.take i)) (story.getD i api_Event.z)
noncomputable def findL (order : List api_Entry) (story : List api_Event) (n : Nat) : List (Int × Int) := (List.range n).filterMap fun i => if wAt order story i = 0 then none else some ((i : Int), wAt order story i)
theorem findL_succ (order : List api_Entry) (story : List api_Event) (n : Nat) : findL order story (n + 1) = if wAt order story n = 0 then findL order story n else findL order story n ++ [((n : Int), wAt order story n)] := by
 unfold findL
 rw [List.range_succ, List.filterMap_append]
 by_cases h : wAt order story n = 0 <;> simp [h]
theorem findL_len (order : List api_Entry) (story : List api_Event) (n : Nat) : (findL order story n).length ≤ n := by
 unfold findL
 exact Nat.le_trans (List.length_filterMap_le _ _) (by simp)
def fI (x : Int × Int) : api_Finding := ⟨x.1, x.2⟩
def fR (x : Int × Int) : spliceref24_Finding := ⟨x.1, x.2⟩
structure StOk (order : List api_Entry) (story : List api_Event) : Prop where
 few : Few order
 len : order.length ≤ 30
 fv : FewV story
theorem StOk.see {order : List api_Entry} {story : List api_Event} (h : StOk order story) (ho : Ord order) (c : Int) (n : Nat) : SeeOk order (issL c (story.take n)) :=
 ⟨h.few, h.len, ho.ok, fun m hm => (issL_mem c _ m hm).1, by
  have := issL_len c (story.take n)
  have := h.fv.len
  rw [List.length_take] at *
  omega⟩
theorem Check_eq {order : List api_Entry} {story : List api_Event} (h : StOk order story) : (Ord order → audit_Check order story = some ((findL order story story.length).map fI, 0)) ∧ (¬ Ord order → audit_Check order story = some ([], 1)) := by
 obtain ⟨r, h1, _, h3⟩ := Order_same order h.few
 have hl := h.fv.len
 constructor
 ·intro ho
  unfold audit_Check
  rw [h1, Option.bind_some, if_pos (h3.2 ho)]
  obtain ⟨s, q1, q2⟩ := for_post (step := audit_Check.step order story) (n := story.length) (fun i (t : PT × List api_Finding) => audit_Check.S.l1 (i : Int) t.1 t.2) (fun i t => t = (past (story.take i), (findL order story i).map fI)) (fun r => r = ((findL order story story.length).map fI, 0)) (by
   rintro t rfl
   exact ⟨_, by simp [audit_Check.step, audit_Check.l1], rfl⟩) (by
   rintro i t hi rfl
   left
   have hstep : (0 : Int) ≤ (i : Int) ∧ (i : Int) < (story.length : Int) := by omega
   have hp := h.fv.prs _ (getD_in (z := api_Event.z) hi)
   have hfl := findL_len order story i
   simp only [audit_Check.step, audit_Check.l1, audit_Check.j1, hstep.2, if_true, hstep, and_self, show (i : Int).toNat = i from rfl, wr1 hi (by omega : story.length ≤ 9223372036854775807)]
   rw [why_eq order (story.take i) (story.getD i api_Event.z) (by rw [List.length_take]; omega) hp (h.see ho _ _), Option.bind_some, ← take_at hi]
   refine ⟨(past (story.take (i + 1)), (findL order story (i + 1)).map fI), ?_, rfl⟩
   rw [findL_succ]
   show (if wAt order story i = 0 then _ else _) = _
   by_cases hw : wAt order story i = 0
   ·rw [if_pos hw, if_pos hw]
   ·rw [if_neg hw, if_neg hw, List.length_map, if_pos (by omega)]
    simp only [List.map_append, List.map_cons, List.map_nil]
    rfl) 0 (fun _ => ([], 0), []) (Nat.zero_le _) (by simp [past_nil, findL])
  subst q2
  exact q1
 ·intro ho
  unfold audit_Check
  rw [h1, Option.bind_some, if_neg (fun hr => ho (h3.1 hr))]

theorem ref_why_eq {order : List api_Entry} {story : List api_Event} (h : StOk order story) (ho : Ord order) {i : Nat} (hi : i < story.length) : spliceref24_why (order.map trE) (story.map trV) (i : Int) = some (wAt order story i) := by
 have hl := h.fv.len
 have hstep : (0 : Int) ≤ (i : Int) ∧ (i : Int) < (story.length : Int) := by omega
 have hp := h.fv.prs _ (getD_in (z := api_Event.z) hi)
 unfold spliceref24_why wAt whyV
 simp only [List.length_map, hstep.2, if_true, hstep, and_self, show (i : Int).toNat = i from rfl, trV_at story hi]
 obtain ⟨e, he⟩ : ∃ e, story.getD i api_Event.z = e := ⟨_, rfl⟩
 rw [he] at hp ⊢
 rw [ref_formed_eq e (by omega), Option.bind_some]
 cases hfo : formB e with
 | false => rw [if_neg (by decide), if_neg (by decide)]
 | true =>
  rw [if_pos rfl, if_pos rfl, show (trV e).Kind = e.Kind from rfl, show (trV e).Client = e.Client from rfl]
  by_cases k1 : e.Kind = 1
  ·rw [if_pos k1, if_pos k1, ref_issued_eq story h.fv, Option.bind_some, show ((trV e).M).Seq = e.M.Seq from rfl, show (i : Int).toNat = i from rfl, List.length_map]
   have hil := issL_len e.Client (story.take i)
   rw [List.length_take] at hil
   rw [wr (by omega)]
   by_cases k2 : e.M.Seq = ((issL e.Client (story.take i)).length : Int) + 1 <;> simp [k2]
  ·rw [if_neg k1, if_neg k1]
   obtain ⟨f1, f2, f3⟩ := form2 hfo k1
   have hgt := marL_gt e.Client e.Mark f2 (story.take i)
   have hin : ∀ {j : Nat}, j < i → story.getD j api_Event.z ∈ story.take i := fun {j} hj => by
    rw [List.mem_iff_getElem?]
    exact ⟨j, by simp [List.getElem?_take, hj, List.getD_eq_getElem?_getD, show j < story.length by omega]⟩
   obtain ⟨s, q1, q2⟩ := for_post (step := spliceref24_why.step (order.map trE) (story.map trV) (i : Int)) (n := i) (fun j (_ : Unit) => spliceref24_why.S.l1 (j : Int)) (fun j _ => ∀ e' ∈ story.take j, ¬ (e'.Kind = 2 ∧ e'.Client = e.Client ∧ formB e' = true ∧ e.Mark < e'.Mark))
    (fun r => r = if e.Mark < marL e.Client (story.take i) then 3 else if (seeC order (issL e.Client (story.take i)) e.Key e.Mark).Val = e.Cell.Val ∧ (seeC order (issL e.Client (story.take i)) e.Key e.Mark).Some = e.Cell.Some then 0 else 4) (by
    intro _ hno
    have hn : ¬ e.Mark < marL e.Client (story.take i) := fun hh => by
     obtain ⟨x, hx1, hx2⟩ := hgt.1 hh
     exact hno x hx1 hx2
    rw [if_neg hn]
    simp only [spliceref24_why.step, spliceref24_why.l1, Int.lt_irrefl, if_false, show (i : Int).toNat = i from rfl, trV_at story hi, he]
    rw [show (trV e).Client = e.Client from rfl, show (trV e).Key = e.Key from rfl, show (trV e).Mark = e.Mark from rfl, show ((trV e).Cell).Val = e.Cell.Val from rfl, show ((trV e).Cell).Some = e.Cell.Some from rfl, ref_Sees_eq h.fv (i : Int) _ _ _ ho (h.see ho _ _), Option.bind_some, show (i : Int).toNat = i from rfl]
    unfold spliceref24_why.j1
    change ∃ r, (if (seeC order (issL e.Client (story.take i)) e.Key e.Mark).Val = e.Cell.Val then (if (seeC order (issL e.Client (story.take i)) e.Key e.Mark).Some = true then _ else _) else (if (seeC order (issL e.Client (story.take i)) e.Key e.Mark).Some = true then _ else _)) = some (Sum.inr r) ∧ _
    generalize seeC order (issL e.Client (story.take i)) e.Key e.Mark = C
    by_cases h1 : C.Val = e.Cell.Val <;> by_cases h2 : C.Some = true <;> by_cases h3 : e.Cell.Some = true <;> simp [h1, h2, h3]) (by
    intro j _ hj hno
    have hj' : j < story.length := by omega
    have hjs : (0 : Int) ≤ (j : Int) ∧ (j : Int) < (story.length : Int) := by omega
    have hpj := h.fv.prs _ (getD_in (z := api_Event.z) hj')
    have hlt : (j : Int) < (i : Int) := by omega
    have hmem := hin hj
    simp only [spliceref24_why.step, spliceref24_why.l1, hlt, if_true, List.length_map, hjs, and_self, show (j : Int).toNat = j from rfl, show (i : Int).toNat = i from rfl, trV_at story hi, trV_at story hj', he]
    have htk : story.take (j + 1) = story.take j ++ [story.getD j api_Event.z] := take_at hj'
    obtain ⟨x, hx⟩ : ∃ x, story.getD j api_Event.z = x := ⟨_, rfl⟩
    rw [hx] at hpj hmem htk ⊢
    rw [ref_formed_eq x (by omega), Option.bind_some, show (trV x).Kind = x.Kind from rfl, show (trV x).Client = x.Client from rfl, show (trV e).Client = e.Client from rfl, show (trV x).Mark = x.Mark from rfl, show (trV e).Mark = e.Mark from rfl]
    have hgo : ¬ (x.Kind = 2 ∧ x.Client = e.Client ∧ formB x = true ∧ e.Mark < x.Mark) → ∀ e' ∈ story.take (j + 1), ¬ (e'.Kind = 2 ∧ e'.Client = e.Client ∧ formB e' = true ∧ e.Mark < e'.Mark) := by
     intro hb e' he'
     rw [htk] at he'
     rcases List.mem_append.1 he' with he' | he'
     ·exact hno e' he'
     ·simp at he'; subst he'; exact hb
    unfold spliceref24_why.j2
    have hnx : ∀ (b : Bool), b = false → (if b = true then some (Sum.inr 3) else some (Sum.inl (spliceref24_why.S.l1 (IntKind.wrap .i64 ((j : Int) + 1)))) : Option (spliceref24_why.S ⊕ Int)) = some (Sum.inl (spliceref24_why.S.l1 ((j + 1 : Nat) : Int))) := by
     rintro b rfl
     rw [if_neg (by decide), wr1 hj (by omega : i ≤ 9223372036854775807)]
    by_cases c1 : x.Kind = 2
    ·by_cases c2 : x.Client = e.Client
     ·cases c3 : formB x with
      | false =>
       left
       exact ⟨(), by rw [if_pos c1, if_pos c2, if_neg (by decide), hnx _ rfl], hgo (by simp [c3])⟩
      | true =>
       rw [if_pos c1, if_pos c2, if_pos rfl]
       by_cases c4 : x.Mark > e.Mark
       ·right
        refine ⟨3, by rw [decide_eq_true c4, if_pos rfl], ?_⟩
        rw [if_pos (hgt.2 ⟨x, hmem, c1, c2, c3, c4⟩)]
       ·left
        exact ⟨(), by rw [decide_eq_false c4, hnx _ rfl], hgo (fun hh => c4 hh.2.2.2)⟩
     ·left
      exact ⟨(), by rw [if_pos c1, if_neg c2, hnx _ rfl], hgo (fun hh => c2 hh.2.1)⟩
    ·left
     exact ⟨(), by rw [if_neg c1, hnx _ rfl], hgo (fun hh => c1 hh.1)⟩) 0 () (Nat.zero_le _) (by simp)
   subst q2
   exact q1

theorem ref_Check24_eq {order : List api_Entry} {story : List api_Event} (h : StOk order story) : (Ord order → spliceref24_Check (order.map trE) (story.map trV) = some ((findL order story story.length).map fR, 0)) ∧ (¬ Ord order → spliceref24_Check (order.map trE) (story.map trV) = some ([], 1)) := by
 obtain ⟨r, _, h1, h3⟩ := Order_same order h.few
 have hl := h.fv.len
 constructor
 ·intro ho
  unfold spliceref24_Check
  rw [h1, Option.bind_some, if_pos (h3.2 ho)]
  obtain ⟨s, q1, q2⟩ := for_post (step := spliceref24_Check.step (order.map trE) (story.map trV)) (n := story.length) (fun i t => spliceref24_Check.S.l1 (i : Int) t) (fun i t => t = (findL order story i).map fR) (fun r => r = ((findL order story story.length).map fR, 0)) (by
   rintro t rfl
   exact ⟨_, by simp [spliceref24_Check.step, spliceref24_Check.l1], rfl⟩) (by
   rintro i t hi rfl
   left
   have hstep : (0 : Int) ≤ (i : Int) ∧ (i : Int) < (story.length : Int) := by omega
   have hfl := findL_len order story i
   simp only [spliceref24_Check.step, spliceref24_Check.l1, spliceref24_Check.j1, List.length_map, hstep.2, if_true, wr1 hi (by omega : story.length ≤ 9223372036854775807)]
   rw [ref_why_eq h ho hi, Option.bind_some]
   refine ⟨(findL order story (i + 1)).map fR, ?_, rfl⟩
   rw [findL_succ]
   by_cases hw : wAt order story i = 0
   ·rw [if_pos hw, if_pos hw]
   ·rw [if_neg hw, if_neg hw, if_pos (by omega)]
    simp only [List.map_append, List.map_cons, List.map_nil]
    rfl) 0 [] (Nat.zero_le _) (by simp [findL])
  subst q2
  exact q1
 ·intro ho
  unfold spliceref24_Check
  rw [h1, Option.bind_some, if_neg (fun hr => ho (h3.1 hr))]
end Go.SyP
