/- Hold: adding to a queue. -/
import Derived.Test.YtboaahlhgekbbaaG06Q
set_option linter.unusedVariables false
set_option linter.unusedSimpArgs false
namespace Go.SyP
open Go Go.Sy Go.Proofs


def qNew : QL := ⟨[], ⟨.nil, .nil, fun _ h => by cases h⟩⟩
theorem qi_nil (M : Nat → hold_item) : QI [] [] M := ⟨⟨fun _ h => h, .nil, fun _ h => absurd h (Nat.not_lt_zero _), by decide⟩, .refl _, fun c h1 h2 => absurd h2 (Nat.not_lt_zero _), qNew.good⟩
theorem qNew_says : Says Try.prog 10 [] [] [qR qNew] (.ptr 0 0 0 0) := by
  refine says_of Try.func10 rfl (nt := 3) rfl (Nat.le_of_ble_eq_true rfl) fun X hP h0 hX => ?_
  have hT : TabOk X.P T := hP ▸ tok
  have hf : X.P.funcs[10]? = some Try.f10 := hP ▸ Try.func10
  refine goK hT 10 (K10 11 1) ⟨3, [(0, .ptr 0 0 0 0)], [.box 86 [.ns]]⟩ ?_
  refine ak_nilBox (tb := 86) (cs := [.ns]) 0 0 1 89 (vec eA 0 []) (st' := ⟨3, [(0, .ptr 0 0 0 0)], [.box 86 [.own 1 1 0 0], .flat false 1 89 0 (vec eA 0 [])]⟩) (by kernel_rfl) (by kernel_rfl) ?_
  refine ak_arena hold_item.e hold_item.nl 95 (fun _ => hold_item.z) ?_
  refine ak_shut (e := hold_item.e) (he := hold_item.nl) (ty := 95) (tq := 86) (te := 89) (QI qNew.l) (N := 1) (A := 2) (l := []) (dom := []) (M := fun _ => hold_item.z) 0 rfl rfl rfl (fun _ h => h) .nil (qi_nil _) ?_
  exact ak_ret hf hX (av := .ptr 0 0 0 0) (by kernel_rfl) [0] (sel_of_eq rfl) (by decide) (by rw [h0]; rfl) (by kernel_rfl) (fun _ h => all_cons (.obj _) (fun _ h => all_nil h) h) (.ptr _ _ _ _)

noncomputable abbrev qLen (q : QL) : Int := q.l.length
noncomputable def qAdd (q : QL) (h : api_Held) : Option (Int × QL) :=
  (mut_Check h.M).bind fun ck =>
  if h.M.Pairs.length ≤ 1000000 ∧ q.l.length ≤ 1000000 then
    some (if ck = true ∧ timedB h.Time = true then qPut q h else (1, q))
  else none

theorem push_q {L : List api_Held} {l : List Nat} {M : Nat → hold_item} (h : QI L l M) {y : api_Held} {a : Nat} (ha : a ∉ l) (hb : L.length ≤ 1000000) (hg : Good (insH y L)) :
    ∃ l' M', heap_Push_i92_i89 ⟨⟨l⟩⟩ a (l ++ [a]) (upd M a ⟨y, 0⟩) = some (⟨⟨l'⟩⟩, M') ∧ QI (insH y L) l' M' ∧ (∀ b ∈ l', b ∈ l ++ [a]) ∧ l'.Nodup := by
  have hne : ∀ b, b ∈ l → upd M a (⟨y, 0⟩ : hold_item) b = M b := fun b hb => by
    have : b ≠ a := fun e => ha (e ▸ hb)
    simp [upd, this]
  have hs : HS (l ++ [a]) l (upd M a ⟨y, 0⟩) := ⟨fun b hb => List.mem_append.2 (.inl hb), h.hs.nd, fun i hi => by rw [hne _ (getD_mem hi)]; exact h.hs.at_ i hi, h.hs.len⟩
  have hK : ∀ i, i < l.length → Kf (fun x => stampH (upd M a (⟨y, 0⟩ : hold_item) x).h) l i = Kf (fun x => stampH (M x).h) l i := fun i hi => by
    show stampH (upd M a (⟨y, 0⟩ : hold_item) (l.getD i 0)).h = stampH (M (l.getD i 0)).h
    rw [hne _ (getD_mem hi)]
  have hh : Heap (fun x => stampH (upd M a (⟨y, 0⟩ : hold_item) x).h) l l.length := fun c h1 h2 => by
    rw [hK _ (by omega), hK _ h2]
    exact h.heap c h1 h2
  have hlen := h.len
  obtain ⟨l', M', e1, e2, e3, e4, e5⟩ := push_spec hs hh (List.mem_append.2 (.inr (List.mem_singleton.2 rfl))) ha (by omega)
  have hκ : (fun x => stampH (M' x).h) = fun x => stampH (upd M a (⟨y, 0⟩ : hold_item) x).h := by funext x; rw [e4]
  refine ⟨l', M', e1, ⟨e2.own, ?_, by rw [hκ]; exact e5, hg⟩, fun b hb => e3.mem_iff.1 hb, e2.nd⟩
  have e6 : (l'.map fun b => (M' b).h) = l'.map fun b => (upd M a (⟨y, 0⟩ : hold_item) b).h := List.map_congr_left fun b _ => e4 b
  have e7 : (l.map fun b => (upd M a (⟨y, 0⟩ : hold_item) b).h) = l.map fun b => (M b).h := List.map_congr_left fun b hb => by rw [hne b hb]
  rw [e6]
  refine (e3.map _).trans ?_
  rw [List.map_append, e7]
  have e8 : ([a].map fun b => (upd M a (⟨y, 0⟩ : hold_item) b).h) = [y] := by simp [upd]
  rw [e8]
  exact (h.perm.append_right [y]).trans ((List.perm_append_singleton y L).trans (insH_perm y L).symm)

theorem qAdd_says (q : QL) (a1 : api_Held) {r : Int × QL} (H : qAdd q a1 = some r) : Says Try.prog 12 [qR q] [.ptr 0 0 0 0, .d (eG32 a1)] [qR r.2] (.i r.1) := by
  unfold qAdd at H
  obtain ⟨v1, h1, H⟩ := Option.bind_eq_some_iff.1 H
  have hb : a1.M.Pairs.length ≤ 1000000 ∧ q.l.length ≤ 1000000 := by
    by_cases h : a1.M.Pairs.length ≤ 1000000 ∧ q.l.length ≤ 1000000
    · exact h
    · rw [if_neg h] at H; cases H
  rw [if_pos hb] at H
  injection H with H
  refine says_of Try.func12 rfl (nt := 40) rfl (Nat.le_of_ble_eq_true rfl) fun X hP h0 hX => ?_
  have hT : TabOk X.P T := hP ▸ tok
  have hf : X.P.funcs[12]? = some Try.f12 := hP ▸ Try.func12
  refine ak_open (e := hold_item.e) (he := hold_item.nl) (ty := 95) (tq := 86) (te := 89) (I := QI q.l) 0 rfl fun l M hq hn => ?_
  show AK X 12 _ _ ⟨40, [(0, .ptr 0 0 0 0), (1, .d (eG32 a1))], [.box 86 [.own 1 1 0 l.length], eR89 l, .obj (arO hold_item.e hold_item.nl 95 l M)]⟩
  refine ak_dup 1 (r := eR89 l) rfl rfl (st' := ⟨40, [(0, .ptr 0 0 0 0), (1, .d (eG32 a1))], [.box 86 [.own 3 1 0 l.length], .gone, .obj (arO hold_item.e hold_item.nl 95 l M), eR89 l]⟩) (by kernel_rfl) (by kernel_rfl) rfl ?_
  refine goK hT 14 (K12 11000 5) ⟨40, [(0, .ptr 0 0 0 0), (3, .ptr 4 0 0 0), (8, .b false), (10, .d (eG30 a1.M))], [.box 86 [.own 3 1 0 l.length], .gone, .obj (arO hold_item.e hold_item.nl 95 l M), eR89 l, .box 32 (eC32 a1)]⟩ ?_
  have Jj1 : ∀ (y1_5 : Bool), r = (if y1_5 = true then (1, q) else qPut q a1) → AK X 12 ((K12 1100 1)) (Back X [qR r.2] (.i r.1)) ⟨40, [(0, .ptr 0 0 0 0), (3, .ptr 3 0 0 0), (5, .b y1_5)], [.box 86 [.own 4 1 0 l.length], .gone, .obj (arO hold_item.e hold_item.nl 95 l M), .box 32 (eC32 a1), eR89 l]⟩ := by
    intro y1_5 H
    by_cases c3 : y1_5 = true
    · rw [if_pos c3] at H
      subst H
      rw [c3]
      refine goK hT 5 (K12 110010 1) ⟨40, [(4, .i 1)], [.box 86 [.own 4 1 0 l.length], .gone, .obj (arO hold_item.e hold_item.nl 95 l M), .box 32 (eC32 a1), eR89 l]⟩ ?_
      refine ak_shut (e := hold_item.e) (he := hold_item.nl) (ty := 95) (tq := 86) (te := 89) (QI q.l) (N := 4) (A := 2) (l := l) (dom := l) (M := M) 0 rfl rfl rfl (fun _ h => h) hn hq ?_
      exact ak_ret hf hX (av := .i 1) (by kernel_rfl) [0] (sel_of_eq rfl) (by decide) (by rw [h0]; rfl) (by kernel_rfl) (fun _ h => all_cons (.obj _) (fun _ h => all_nil h) h) (.d (.v _))
    · rw [if_neg c3] at H
      rw [boF c3]
      refine goK hT 10 (K12 1100110 7) ⟨40, [(0, .ptr 0 0 0 0), (3, .ptr 3 0 0 0), (21, .ptr 0 0 0 0), (24, .i a1.M.Client), (27, .i a1.M.Seq)], [.box 86 [.own 4 1 0 l.length], .gone, .obj (arO hold_item.e hold_item.nl 95 l M), .box 32 (eC32 a1), eR89 l]⟩ ?_
      obtain ⟨o, h4, ho⟩ := find_q hq a1.M.Client a1.M.Seq
      have Sq5 := hold_Queue_find.says ⟨⟨l⟩⟩ a1.M.Client a1.M.Seq l M h4
      rcases ho with ⟨rfl, ho⟩ | ⟨i, hi, rfl, ho⟩
      · refine ak_callP (avs := [.ptr 0 0 0 0, .i a1.M.Client, .i a1.M.Seq]) (dst := some 28) (k' := (K12 1100110 8)) [0, 3, 28] [0, 4, 2] hP enters_33 (Sq5) (by kernel_rfl) (hands_three rfl rfl rfl (by decide)) (.cons (.same (.ptr 0 0 0 0)) (.cons (pass_d _) (.cons (pass_d _) .nil))) (st' := ⟨40, [(0, .ptr 0 0 0 0), (3, .ptr 3 0 0 0), (28, .d .np)], [.box 86 [.own 5 1 0 l.length], .gone, .obj (arO hold_item.e hold_item.nl 95 l M), .box 32 (eC32 a1), .gone, eR89 l]⟩) (by kernel_rfl) ?_
        refine goK hT 6 (K12 11 1) ⟨40, [(0, .ptr 0 0 0 0), (3, .ptr 3 0 0 0)], [.box 86 [.own 5 1 0 l.length], .gone, .obj (arO hold_item.e hold_item.nl 95 l M), .box 32 (eC32 a1), .gone, eR89 l]⟩ ?_
        refine goK hT 1 (K12 111 0) ⟨40, [(0, .ptr 0 0 0 0), (3, .ptr 3 0 0 0)], [.box 86 [.own 5 1 0 l.length], .gone, .obj (arO hold_item.e hold_item.nl 95 l M), .box 32 (eC32 a1), .gone, eR89 l]⟩ ?_
        refine ak_drawAtE (nt := 40) (hP ▸ mixed) 9 [7] [0, 3] [(0, .ptr 0 0 0 0), (3, .ptr 3 0 0 0)] [some (.ptr 0 0 0 0), some (.ptr 0 0 0 0), some (.ptr 0 0 0 0), some (.ifc 92 (.ptr 0 0 0 0)), some (.d (eG32 a1)), some (.d (eG32 a1)), some (.d (.agg [.i a1.M.Client, .i a1.M.Seq, .i a1.M.Kind, eL70 true a1.M.Pairs, .i a1.M.Over.Lo, .i a1.M.Over.Hi, .i a1.M.Old, .i a1.Time, .b a1.Final, .i 0])), some (.ptr 6 0 0 0), some (.ifc 89 (.ptr 6 0 0 0))] [[.box 86 [.own 5 1 0 l.length], .gone, .obj (arO hold_item.e hold_item.nl 95 l M), .box 32 (eC32 a1), .gone, eR89 l], [.box 86 [.own 5 1 0 l.length], .gone, .obj (arO hold_item.e hold_item.nl 95 l M), .box 32 (eC32 a1), .gone, eR89 l, .box 95 [.i a1.M.Client, .i a1.M.Seq, .i a1.M.Kind, .d (eL70 true a1.M.Pairs), .i a1.M.Over.Lo, .i a1.M.Over.Hi, .i a1.M.Old, .i a1.Time, .b a1.Final, .i 0]]] (by kernel_rfl) (by kernel_rfl) (by kernel_rfl) (by kernel_rfl) ⟨(opGE (opXE (opGE (opES (opGE (opGE (opGE (opGE (opGE opE0 hT) hT) hT) hT) hT) (fun R rest h => ak_callD (avs := [.d (eG32 a1)]) (dst := some 35) hP enters_35 (hold_own.says a1 (own_eq hb.1)) (by kernel_rfl) (.cons (pass_d _) .nil) (by kernel_rfl) h)) hT)) hT), (op_goFK hT), (opGE (opXE (opGE (opES (opGE (opGE (opGE (opGE (opGE opE0 hT) hT) hT) hT) hT) (fun R rest h => ak_callD (avs := [.d (eG32 a1)]) (dst := some 35) hP enters_35 (hold_own.says a1 (own_eq hb.1)) (by kernel_rfl) (.cons (pass_d _) .nil) (by kernel_rfl) h)) hT)) hT)⟩ ?_
        refine goK hT 0 (K12 1110 9) ⟨40, [(33, .ifc 92 (.ptr 0 0 0 0)), (38, .ifc 89 (.ptr 6 0 0 0))], [.box 86 [.own 5 1 0 l.length], .gone, .obj (arO hold_item.e hold_item.nl 95 l M), .box 32 (eC32 a1), .gone, eR89 l, .box 95 [.i a1.M.Client, .i a1.M.Seq, .i a1.M.Kind, .d (eL70 true a1.M.Pairs), .i a1.M.Over.Lo, .i a1.M.Over.Hi, .i a1.M.Old, .i a1.Time, .b a1.Final, .i 0]]⟩ ?_
        refine ak_absorb 6 2 (⟨a1, 0⟩ : hold_item) (by decide) (by kernel_rfl) (by kernel_rfl) fun na hna => ⟨⟨40, [(33, .ifc 92 (.ptr 0 0 0 0)), (38, .d (.ifc 89 (pA na 0)))], [.box 86 [.own 5 1 0 l.length], .gone, .obj (arO hold_item.e hold_item.nl 95 (l ++ [na]) (upd M na (⟨a1, 0⟩ : hold_item))), .box 32 (eC32 a1), .gone, eR89 l, .gone]⟩, (by
          intro j av hj
          by_cases e1 : j = 33
          · subst e1
            refine ⟨_, rfl, .inl ?_⟩
            simpa [List.lookup] using hj.symm
          · by_cases e2 : j = 38
            · subst e2
              refine ⟨_, rfl, .inr (.inr ⟨89, 0, rfl, ?_⟩)⟩
              simpa [List.lookup] using hj.symm
            · have : ([(33, .ifc 92 (.ptr 0 0 0 0)), (38, .d (.ifc 89 (pA na 0)))] : List (Nat × AV)).lookup j = none := by
                simp [List.lookup, beq_eq_false_iff_ne.2 e1, beq_eq_false_iff_ne.2 e2]
              rw [this] at hj
              cases hj), rfl, rfl, ?_⟩
        have hr : ∃ hg, r = (0, ⟨insH a1 q.l, hg⟩) := by
          rw [H]
          unfold qPut
          split
          · rename_i x e; rw [ho] at e; cases e
          · rename_i e; exact ⟨add_good q.good ho hb.1, by rw [dif_pos hb.1]⟩
        obtain ⟨hg, rfl⟩ := hr
        obtain ⟨l', M', e1, e2, e3, e4⟩ := push_q hq hna hb.2 hg
        refine ak_callP (avs := [.ifc 92 (.ptr 0 0 0 0), .d (.ifc 89 (pA na 0))]) (dst := some 39) (k' := (K12 1110 10)) [] [0, 5, 2] hP enters_34 (heap_Push_i92_i89.says ⟨⟨l⟩⟩ na (l ++ [na]) (upd M na (⟨a1, 0⟩ : hold_item)) e1) (by kernel_rfl) (hands_three rfl rfl rfl (by decide)) (.cons (.same (.ifc 92 (.ptr 0 0 0 0))) (.cons (pass_d _) .nil)) (st' := ⟨40, [], [.box 86 [.own 7 1 0 l'.length], .gone, .obj (arO hold_item.e hold_item.nl 95 (l ++ [na]) M'), .box 32 (eC32 a1), .gone, .gone, .gone, eR89 l']⟩) (by kernel_rfl) ?_
        refine goK hT 5 (K12 1111 1) ⟨40, [(4, .i 0)], [.box 86 [.own 7 1 0 l'.length], .gone, .obj (arO hold_item.e hold_item.nl 95 (l ++ [na]) M'), .box 32 (eC32 a1), .gone, .gone, .gone, eR89 l']⟩ ?_
        refine ak_shut (e := hold_item.e) (he := hold_item.nl) (ty := 95) (tq := 86) (te := 89) (QI (insH a1 q.l)) (N := 7) (A := 2) (l := l') (dom := l ++ [na]) (M := M') 0 rfl rfl rfl e3 e4 e2 ?_
        exact ak_ret hf hX (av := .i 0) (by kernel_rfl) [0] (sel_of_eq rfl) (by decide) (by rw [h0]; rfl) (by kernel_rfl) (fun _ h => all_cons (.obj _) (fun _ h => all_nil h) h) (.d (.v _))
      · have hr : r = (7, q) := by
          rw [H]
          unfold qPut
          split
          · rfl
          · rename_i e; rw [ho] at e; cases e
        subst hr
        refine ak_callP (avs := [.ptr 0 0 0 0, .i a1.M.Client, .i a1.M.Seq]) (dst := some 28) (k' := (K12 1100110 8)) [0, 3, 28] [0, 4, 2] hP enters_33 (Sq5) (by kernel_rfl) (hands_three rfl rfl rfl (by decide)) (.cons (.same (.ptr 0 0 0 0)) (.cons (pass_d _) (.cons (pass_d _) .nil))) (st' := ⟨40, [(0, .ptr 0 0 0 0), (3, .ptr 3 0 0 0), (28, .d (pA (l.getD i 0) 0))], [.box 86 [.own 5 1 0 l.length], .gone, .obj (arO hold_item.e hold_item.nl 95 l M), .box 32 (eC32 a1), .gone, eR89 l]⟩) (by kernel_rfl) ?_
        refine goK hT 8 (K12 11001110 1) ⟨40, [(4, .i 7)], [.box 86 [.own 5 1 0 l.length], .gone, .obj (arO hold_item.e hold_item.nl 95 l M), .box 32 (eC32 a1), .gone, eR89 l]⟩ ?_
        refine ak_shut (e := hold_item.e) (he := hold_item.nl) (ty := 95) (tq := 86) (te := 89) (QI q.l) (N := 5) (A := 2) (l := l) (dom := l) (M := M) 0 rfl rfl rfl (fun _ h => h) hn hq ?_
        exact ak_ret hf hX (av := .i 7) (by kernel_rfl) [0] (sel_of_eq rfl) (by decide) (by rw [h0]; rfl) (by kernel_rfl) (fun _ h => all_cons (.obj _) (fun _ h => all_nil h) h) (.d (.v _))
  refine ak_callP (avs := [.d (eG30 a1.M)]) (dst := some 11) (k' := (K12 11000 6)) [0, 3, 8, 11] [] hP enters_25 (mut_Check.says a1.M h1) (by kernel_rfl) (hands_none _) (.cons (pass_d _) .nil) (st' := ⟨40, [(0, .ptr 0 0 0 0), (3, .ptr 4 0 0 0), (8, .b false), (11, .b v1)], [.box 86 [.own 3 1 0 l.length], .gone, .obj (arO hold_item.e hold_item.nl 95 l M), eR89 l, .box 32 (eC32 a1)]⟩) (by kernel_rfl) ?_
  refine goK hT 3 (K12 11000 9) ⟨40, [(0, .ptr 0 0 0 0), (3, .ptr 4 0 0 0), (14, .b (!v1))], [.box 86 [.own 3 1 0 l.length], .gone, .obj (arO hold_item.e hold_item.nl 95 l M), eR89 l, .box 32 (eC32 a1)]⟩ ?_
  by_cases c2 : v1 = true
  · skip
    rw [c2]
    refine goK hT 2 (K12 11000 11) ⟨40, [(0, .ptr 0 0 0 0), (3, .ptr 4 0 0 0), (14, .b false), (16, .i a1.Time)], [.box 86 [.own 3 1 0 l.length], .gone, .obj (arO hold_item.e hold_item.nl 95 l M), eR89 l, .box 32 (eC32 a1)]⟩ ?_
    refine ak_callP (avs := [.i a1.Time]) (dst := some 17) (k' := (K12 11000 12)) [0, 3, 14, 17] [] hP enters_32 (hold_timed.says a1.Time) (by kernel_rfl) (hands_none _) (.cons (pass_d _) .nil) (st' := ⟨40, [(0, .ptr 0 0 0 0), (3, .ptr 4 0 0 0), (14, .b false), (17, .b (hold_timed a1.Time))], [.box 86 [.own 3 1 0 l.length], .gone, .obj (arO hold_item.e hold_item.nl 95 l M), eR89 l, .box 32 (eC32 a1)]⟩) (by kernel_rfl) ?_
    refine goK hT 4 (K12 1100 1) ⟨40, [(0, .ptr 0 0 0 0), (3, .ptr 4 0 0 0), (5, .b (!(hold_timed a1.Time)))], [.box 86 [.own 3 1 0 l.length], .gone, .obj (arO hold_item.e hold_item.nl 95 l M), eR89 l, .box 32 (eC32 a1)]⟩ ?_
    refine cutK [0, 1, 2, 4, 3] ⟨40, [(0, .ptr 0 0 0 0), (3, .ptr 3 0 0 0), (5, .b (!(hold_timed a1.Time)))], [.box 86 [.own 4 1 0 l.length], .gone, .obj (arO hold_item.e hold_item.nl 95 l M), .box 32 (eC32 a1), eR89 l]⟩ h0 ?_
    exact Jj1 (!(hold_timed a1.Time)) (by rw [← H, timed_eq, c2]; cases timedB a1.Time <;> simp)
  · skip
    rw [boF c2]
    refine goK hT 7 (K12 1100 1) ⟨40, [(0, .ptr 0 0 0 0), (3, .ptr 4 0 0 0), (5, .b true)], [.box 86 [.own 3 1 0 l.length], .gone, .obj (arO hold_item.e hold_item.nl 95 l M), eR89 l, .box 32 (eC32 a1)]⟩ ?_
    refine cutK [0, 1, 2, 4, 3] ⟨40, [(0, .ptr 0 0 0 0), (3, .ptr 3 0 0 0), (5, .b true)], [.box 86 [.own 4 1 0 l.length], .gone, .obj (arO hold_item.e hold_item.nl 95 l M), .box 32 (eC32 a1), eR89 l]⟩ h0 ?_
    exact Jj1 true (by rw [← H, if_neg (fun h => c2 h.1)]; rfl)
end Go.SyP
