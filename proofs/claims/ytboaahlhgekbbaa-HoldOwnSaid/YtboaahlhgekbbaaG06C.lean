/- Certificates, printed by gen.py. -/
import Derived.Test.YtboaahlhgekbbaaG06D
import Derived.Test.YtboaahlhgekbbaaG06I
set_option linter.unusedVariables false
set_option linter.unusedSimpArgs false
namespace Go.SyP
open Go Go.Sy Go.Proofs

theorem hold_Queue_find.says (a0 : hold_Queue) (a1 : Int) (a2 : Int) (dom : List Nat) (M : Nat → hold_item) {r : (Option Nat) × hold_Queue} (H : hold_Queue_find a0 a1 a2 dom M = some r) : Says Try.prog 33 [.box 86 [.own 1 1 0 a0.h.l.length], eR89 a0.h.l, .obj (arO hold_item.e hold_item.nl 95 dom M)] [.ptr 0 0 0 0, .i a1, .i a2] [.box 86 [.own 3 1 0 r.2.h.l.length], .gone, .obj (arO hold_item.e hold_item.nl 95 dom M), eR89 r.2.h.l] (oA r.1) := by
  refine says_of Try.func33 rfl (nt := 41) rfl (Nat.le_of_ble_eq_true rfl) fun X hP h0 hX => ?_
  have hT : TabOk X.P T := hP ▸ tok
  have hf : X.P.funcs[33]? = some Try.f33 := hP ▸ Try.func33
  refine ak_dup 1 (r := eR89 a0.h.l) rfl rfl (st' := ⟨41, [(0, .ptr 0 0 0 0), (1, .i a1), (2, .i a2)], [.box 86 [.own 3 1 0 a0.h.l.length], .gone, .obj (arO hold_item.e hold_item.nl 95 dom M), eR89 a0.h.l]⟩) (by kernel_rfl) (by kernel_rfl) rfl ?_
  refine goK hT 25 (K33 111010 0) ⟨41, [(1, .i a1), (2, .i a2), (15, .own 3 1 0 a0.h.l.length), (16, .i (a0.h.l.length : Int)), (17, .i 0)], [.box 86 [.own 3 1 0 a0.h.l.length], .gone, .obj (arO hold_item.e hold_item.nl 95 dom M), eR89 a0.h.l]⟩ ?_
  have L : ∀ n, (∀ (x1_17 : Int), iter (hold_Queue_find.step a0 a1 a2 dom M) n (.l1 x1_17) = some r → AK X 33 ((K33 111010 0)) (Back X [.box 86 [.own 3 1 0 r.2.h.l.length], .gone, .obj (arO hold_item.e hold_item.nl 95 dom M), eR89 r.2.h.l] (oA r.1)) ⟨41, [(1, .i a1), (2, .i a2), (15, .own 3 1 0 a0.h.l.length), (16, .i (a0.h.l.length : Int)), (17, .i x1_17)], [.box 86 [.own 3 1 0 a0.h.l.length], .gone, .obj (arO hold_item.e hold_item.nl 95 dom M), eR89 a0.h.l]⟩) := by
    intro n
    induction n with
    | zero => exact fun _ H => iter0 H
    | succ n ih =>
      · intro x1_17 H
        refine goK hT 5 (K33 11101001 0) ⟨41, [(1, .i a1), (2, .i a2), (15, .own 3 1 0 a0.h.l.length), (16, .i (a0.h.l.length : Int)), (17, .i x1_17), (18, .b (decide (x1_17 < (a0.h.l.length : Int))))], [.box 86 [.own 3 1 0 a0.h.l.length], .gone, .obj (arO hold_item.e hold_item.nl 95 dom M), eR89 a0.h.l]⟩ ?_
        by_cases c1 : x1_17 < (a0.h.l.length : Int)
        · replace H := sT c1 H
          rw [decide_eq_true c1]
          refine goK hT 2 (K33 11101001 1) ⟨41, [(1, .i a1), (2, .i a2), (15, .own 3 1 0 a0.h.l.length), (16, .i (a0.h.l.length : Int)), (17, .i x1_17)], [.box 86 [.own 3 1 0 a0.h.l.length], .gone, .obj (arO hold_item.e hold_item.nl 95 dom M), eR89 a0.h.l]⟩ ?_
          refine goK hT 4 (K33 111010011000 0) ⟨41, [(1, .i a1), (2, .i a2), (15, .own 3 1 0 a0.h.l.length), (16, .i (a0.h.l.length : Int)), (17, .i x1_17)], [.box 86 [.own 3 1 0 a0.h.l.length], .gone, .obj (arO hold_item.e hold_item.nl 95 dom M), eR89 a0.h.l]⟩ ?_
          obtain ⟨h2, H⟩ := sC H
          refine ak_idx hT [1, 2, 15, 16, 17, 19] (i := x1_17) (n := (a0.h.l.length : Int)) h2.1 h2.2 (k' := (K33 111010011000 1)) (st' := ⟨41, [(1, .i a1), (2, .i a2), (15, .own 3 1 0 a0.h.l.length), (16, .i (a0.h.l.length : Int)), (17, .i x1_17), (19, .ptr 3 1 x1_17.toNat 0)], [.box 86 [.own 3 1 0 a0.h.l.length], .gone, .obj (arO hold_item.e hold_item.nl 95 dom M), eR89 a0.h.l]⟩) (by kernel_rfl) ?_
          refine ak_ld hT [1, 2, 15, 16, 17, 20] (i := x1_17.toNat) (n := a0.h.l.length) (ltN h2.1 h2.2) (k' := (K33 111010011000 2)) (st' := ⟨41, [(1, .i a1), (2, .i a2), (15, .own 3 1 0 a0.h.l.length), (16, .i (a0.h.l.length : Int)), (17, .i x1_17), (20, .d (pA (a0.h.l.getD x1_17.toNat 0) 0))], [.box 86 [.own 3 1 0 a0.h.l.length], .gone, .obj (arO hold_item.e hold_item.nl 95 dom M), eR89 a0.h.l]⟩) (by kernel_rfl) ?_
          refine goK hT 9 (K33 1110100110010 5) ⟨41, [(1, .i a1), (2, .i a2), (8, .d (pA (a0.h.l.getD x1_17.toNat 0) 0)), (15, .own 3 1 0 a0.h.l.length), (16, .i (a0.h.l.length : Int)), (17, .i x1_17), (25, .d (pA (a0.h.l.getD x1_17.toNat 0) 0))], [.box 86 [.own 3 1 0 a0.h.l.length], .gone, .obj (arO hold_item.e hold_item.nl 95 dom M), eR89 a0.h.l]⟩ ?_
          obtain ⟨h3, H⟩ := sC H
          have Jj1 : ∀ (y1_38 : Bool), stk (hold_Queue_find.j1 a0 x1_17 y1_38) (iter (hold_Queue_find.step a0 a1 a2 dom M) n) = some r → AK X 33 ((K33 111010011001 1)) (Back X [.box 86 [.own 3 1 0 r.2.h.l.length], .gone, .obj (arO hold_item.e hold_item.nl 95 dom M), eR89 r.2.h.l] (oA r.1)) ⟨41, [(1, .i a1), (2, .i a2), (8, .d (pA (a0.h.l.getD x1_17.toNat 0) 0)), (15, .own 3 1 0 a0.h.l.length), (16, .i (a0.h.l.length : Int)), (17, .i x1_17), (38, .b y1_38)], [.box 86 [.own 3 1 0 a0.h.l.length], .gone, .obj (arO hold_item.e hold_item.nl 95 dom M), eR89 a0.h.l]⟩ := by
            intro y1_38 H
            by_cases c5 : y1_38 = true
            · replace H := sT c5 H
              rw [c5]
              refine goK hT 6 (K33 11101001100110 1) ⟨41, [(6, .d (pA (a0.h.l.getD x1_17.toNat 0) 0))], [.box 86 [.own 3 1 0 a0.h.l.length], .gone, .obj (arO hold_item.e hold_item.nl 95 dom M), eR89 a0.h.l]⟩ ?_
              obtain rfl := retC H
              exact ak_ret hf hX (av := .d (pA (a0.h.l.getD x1_17.toNat 0) 0)) (by kernel_rfl) [0, 1, 2, 3] (sel_of_eq (by kernel_rfl)) (by decide) (by rw [h0]; rfl) (by kernel_rfl) (fun _ h => all_cons (.box (.cons (.own _ _ _ _) .nil)) (fun _ h => all_cons .gone (fun _ h => all_cons (.obj _) (fun _ h => all_cons (nr_vec nlA) (fun _ h => all_nil h) h) h) h) h) (.d (.v _))
            · replace H := sF c5 H
              rw [boF c5]
              refine goK hT 3 (K33 111010011 1) ⟨41, [(1, .i a1), (2, .i a2), (15, .own 3 1 0 a0.h.l.length), (16, .i (a0.h.l.length : Int)), (17, .i x1_17)], [.box 86 [.own 3 1 0 a0.h.l.length], .gone, .obj (arO hold_item.e hold_item.nl 95 dom M), eR89 a0.h.l]⟩ ?_
              refine goK hT 5 (K33 111010 0) ⟨41, [(1, .i a1), (2, .i a2), (15, .own 3 1 0 a0.h.l.length), (16, .i (a0.h.l.length : Int)), (17, .i (IntKind.wrap .i64 (x1_17 + 1)))], [.box 86 [.own 3 1 0 a0.h.l.length], .gone, .obj (arO hold_item.e hold_item.nl 95 dom M), eR89 a0.h.l]⟩ ?_
              refine cutK [0, 1, 2, 3] ⟨41, [(1, .i a1), (2, .i a2), (15, .own 3 1 0 a0.h.l.length), (16, .i (a0.h.l.length : Int)), (17, .i (IntKind.wrap .i64 (x1_17 + 1)))], [.box 86 [.own 3 1 0 a0.h.l.length], .gone, .obj (arO hold_item.e hold_item.nl 95 dom M), eR89 a0.h.l]⟩ h0 ?_
              exact ih (IntKind.wrap .i64 (x1_17 + 1)) H
          refine ak_lda hT [1, 2, 8, 15, 16, 17, 26] (e := hold_item.e) (he := hold_item.nl) (ty := 95) (dom := dom) (m := M) 2 (a := a0.h.l.getD x1_17.toNat 0) (off := 0) (s := 1) (agg := false) (dst := some 26) (k' := (K33 1110100110010 6)) [.i ((((M (a0.h.l.getD x1_17.toNat 0)).h).M).Client)] (by kernel_rfl) (by kernel_rfl) h3 rfl rfl (fun _ => rfl) (st' := ⟨41, [(1, .i a1), (2, .i a2), (8, .d (pA (a0.h.l.getD x1_17.toNat 0) 0)), (15, .own 3 1 0 a0.h.l.length), (16, .i (a0.h.l.length : Int)), (17, .i x1_17), (26, .i ((((M (a0.h.l.getD x1_17.toNat 0)).h).M).Client))], [.box 86 [.own 3 1 0 a0.h.l.length], .gone, .obj (arO hold_item.e hold_item.nl 95 dom M), eR89 a0.h.l]⟩) (by kernel_rfl) ?_
          refine goK hT 3 (K33 1110100110010 9) ⟨41, [(1, .i a1), (2, .i a2), (8, .d (pA (a0.h.l.getD x1_17.toNat 0) 0)), (15, .own 3 1 0 a0.h.l.length), (16, .i (a0.h.l.length : Int)), (17, .i x1_17), (29, .b (((((M (a0.h.l.getD x1_17.toNat 0)).h).M).Client) == a1))], [.box 86 [.own 3 1 0 a0.h.l.length], .gone, .obj (arO hold_item.e hold_item.nl 95 dom M), eR89 a0.h.l]⟩ ?_
          by_cases c4 : ((((M (a0.h.l.getD x1_17.toNat 0)).h).M).Client) = a1
          · replace H := sT c4 H
            rw [eqT c4]
            refine goK hT 5 (K33 1110100110010 14) ⟨41, [(1, .i a1), (2, .i a2), (8, .d (pA (a0.h.l.getD x1_17.toNat 0) 0)), (15, .own 3 1 0 a0.h.l.length), (16, .i (a0.h.l.length : Int)), (17, .i x1_17), (29, .b true), (34, .d (pA (a0.h.l.getD x1_17.toNat 0) 1))], [.box 86 [.own 3 1 0 a0.h.l.length], .gone, .obj (arO hold_item.e hold_item.nl 95 dom M), eR89 a0.h.l]⟩ ?_
            refine ak_lda hT [1, 2, 8, 15, 16, 17, 29, 35] (e := hold_item.e) (he := hold_item.nl) (ty := 95) (dom := dom) (m := M) 2 (a := a0.h.l.getD x1_17.toNat 0) (off := 1) (s := 1) (agg := false) (dst := some 35) (k' := (K33 1110100110010 15)) [.i ((((M (a0.h.l.getD x1_17.toNat 0)).h).M).Seq)] (by kernel_rfl) (by kernel_rfl) h3 rfl rfl (fun _ => rfl) (st' := ⟨41, [(1, .i a1), (2, .i a2), (8, .d (pA (a0.h.l.getD x1_17.toNat 0) 0)), (15, .own 3 1 0 a0.h.l.length), (16, .i (a0.h.l.length : Int)), (17, .i x1_17), (29, .b true), (35, .i ((((M (a0.h.l.getD x1_17.toNat 0)).h).M).Seq))], [.box 86 [.own 3 1 0 a0.h.l.length], .gone, .obj (arO hold_item.e hold_item.nl 95 dom M), eR89 a0.h.l]⟩) (by kernel_rfl) ?_
            refine goK hT 4 (K33 111010011001 1) ⟨41, [(1, .i a1), (2, .i a2), (8, .d (pA (a0.h.l.getD x1_17.toNat 0) 0)), (15, .own 3 1 0 a0.h.l.length), (16, .i (a0.h.l.length : Int)), (17, .i x1_17), (38, .b (((((M (a0.h.l.getD x1_17.toNat 0)).h).M).Seq) == a2))], [.box 86 [.own 3 1 0 a0.h.l.length], .gone, .obj (arO hold_item.e hold_item.nl 95 dom M), eR89 a0.h.l]⟩ ?_
            refine cutK [0, 1, 2, 3] ⟨41, [(1, .i a1), (2, .i a2), (8, .d (pA (a0.h.l.getD x1_17.toNat 0) 0)), (15, .own 3 1 0 a0.h.l.length), (16, .i (a0.h.l.length : Int)), (17, .i x1_17), (38, .b (((((M (a0.h.l.getD x1_17.toNat 0)).h).M).Seq) == a2))], [.box 86 [.own 3 1 0 a0.h.l.length], .gone, .obj (arO hold_item.e hold_item.nl 95 dom M), eR89 a0.h.l]⟩ h0 ?_
            exact Jj1 (((((M (a0.h.l.getD x1_17.toNat 0)).h).M).Seq) == a2) H
          · replace H := sF c4 H
            rw [eqF c4]
            refine goK hT 10 (K33 111010011001 1) ⟨41, [(1, .i a1), (2, .i a2), (8, .d (pA (a0.h.l.getD x1_17.toNat 0) 0)), (15, .own 3 1 0 a0.h.l.length), (16, .i (a0.h.l.length : Int)), (17, .i x1_17), (38, .b false)], [.box 86 [.own 3 1 0 a0.h.l.length], .gone, .obj (arO hold_item.e hold_item.nl 95 dom M), eR89 a0.h.l]⟩ ?_
            refine cutK [0, 1, 2, 3] ⟨41, [(1, .i a1), (2, .i a2), (8, .d (pA (a0.h.l.getD x1_17.toNat 0) 0)), (15, .own 3 1 0 a0.h.l.length), (16, .i (a0.h.l.length : Int)), (17, .i x1_17), (38, .b false)], [.box 86 [.own 3 1 0 a0.h.l.length], .gone, .obj (arO hold_item.e hold_item.nl 95 dom M), eR89 a0.h.l]⟩ h0 ?_
            exact Jj1 false H
        · replace H := sF c1 H
          rw [decide_eq_false c1]
          refine goK hT 6 (K33 1111 1) ⟨41, [(6, .d .np)], [.box 86 [.own 3 1 0 a0.h.l.length], .gone, .obj (arO hold_item.e hold_item.nl 95 dom M), eR89 a0.h.l]⟩ ?_
          obtain rfl := retC H
          exact ak_ret hf hX (av := .d .np) (by kernel_rfl) [0, 1, 2, 3] (sel_of_eq (by kernel_rfl)) (by decide) (by rw [h0]; rfl) (by kernel_rfl) (fun _ h => all_cons (.box (.cons (.own _ _ _ _) .nil)) (fun _ h => all_cons .gone (fun _ h => all_cons (.obj _) (fun _ h => all_cons (nr_vec nlA) (fun _ h => all_nil h) h) h) h) h) (.d (.v _))
  refine cutK [0, 1, 2, 3] ⟨41, [(1, .i a1), (2, .i a2), (15, .own 3 1 0 a0.h.l.length), (16, .i (a0.h.l.length : Int)), (17, .i 0)], [.box 86 [.own 3 1 0 a0.h.l.length], .gone, .obj (arO hold_item.e hold_item.nl 95 dom M), eR89 a0.h.l]⟩ h0 ?_
  obtain ⟨n, H⟩ := loopC H
  exact (L n) 0 H

theorem hold_timed.says (a0 : Int) : Says Try.prog 32 [] [.i a0] [] (.b (hold_timed a0)) := by
  obtain ⟨r, H⟩ : ∃ r, hold_timed a0 = r := ⟨_, rfl⟩
  rw [H]
  refine says_of Try.func32 rfl (nt := 9) rfl (Nat.le_of_ble_eq_true rfl) fun X hP h0 hX => ?_
  have hT : TabOk X.P T := hP ▸ tok
  have hf : X.P.funcs[32]? = some Try.f32 := hP ▸ Try.func32
  have Jj1 : ∀ (y1_2 : Bool), (hold_timed.j1 y1_2) = r → AK X 32 ((K32 11 1)) (Back X [] (.b r)) ⟨9, [(2, .b y1_2)], []⟩ := by
    intro y1_2 H
    obtain rfl := H
    exact ak_ret hf hX (av := .b y1_2) (by kernel_rfl) [] (sel_of_eq (by kernel_rfl)) (by decide) (by rw [h0]; rfl) (by kernel_rfl) (fun _ h => all_nil h) (.d (.v _))
  refine goK hT 9 (K32 110 3) ⟨9, [(0, .i a0), (5, .b (decide (a0 ≥ 0)))], []⟩ ?_
  by_cases c1 : a0 ≥ 0
  · replace H := iT c1 H
    rw [decide_eq_true c1]
    refine goK hT 5 (K32 11 1) ⟨9, [(2, .b (decide (a0 ≤ 1099511627775)))], []⟩ ?_
    refine cutK [] ⟨9, [(2, .b (decide (a0 ≤ 1099511627775)))], []⟩ h0 ?_
    exact Jj1 (decide (a0 ≤ 1099511627775)) H
  · replace H := iF c1 H
    rw [decide_eq_false c1]
    refine goK hT 5 (K32 11 1) ⟨9, [(2, .b false)], []⟩ ?_
    refine cutK [] ⟨9, [(2, .b false)], []⟩ h0 ?_
    exact Jj1 false H

theorem hold_items_Len.says (a0 : hold_Queue) (dom : List Nat) (M : Nat → hold_item) : Says Try.prog 113 [.box 86 [.own 1 1 0 a0.h.l.length], eR89 a0.h.l, .obj (arO hold_item.e hold_item.nl 95 dom M)] [.ptr 0 0 0 0] [.box 86 [.own 3 1 0 (((((hold_items_Len a0 dom M).2).h).l).length)], .gone, .obj (arO hold_item.e hold_item.nl 95 dom M), eR89 ((((hold_items_Len a0 dom M).2).h).l)] (.i ((hold_items_Len a0 dom M).1)) := by
  obtain ⟨r, H⟩ : ∃ r, hold_items_Len a0 dom M = r := ⟨_, rfl⟩
  rw [H]
  refine says_of Try.func113 rfl (nt := 8) rfl (Nat.le_of_ble_eq_true rfl) fun X hP h0 hX => ?_
  have hT : TabOk X.P T := hP ▸ tok
  have hf : X.P.funcs[113]? = some Try.f113 := hP ▸ Try.func113
  refine ak_dup 1 (r := eR89 a0.h.l) rfl rfl (st' := ⟨8, [(0, .ptr 0 0 0 0)], [.box 86 [.own 3 1 0 a0.h.l.length], .gone, .obj (arO hold_item.e hold_item.nl 95 dom M), eR89 a0.h.l]⟩) (by kernel_rfl) (by kernel_rfl) rfl ?_
  refine goK hT 13 (K113 11 1) ⟨8, [(2, .i (a0.h.l.length : Int))], [.box 86 [.own 3 1 0 a0.h.l.length], .gone, .obj (arO hold_item.e hold_item.nl 95 dom M), eR89 a0.h.l]⟩ ?_
  obtain rfl := H
  exact ak_ret hf hX (av := .i (a0.h.l.length : Int)) (by kernel_rfl) [0, 1, 2, 3] (sel_of_eq (by kernel_rfl)) (by decide) (by rw [h0]; rfl) (by kernel_rfl) (fun _ h => all_cons (.box (.cons (.own _ _ _ _) .nil)) (fun _ h => all_cons .gone (fun _ h => all_cons (.obj _) (fun _ h => all_cons (nr_vec nlA) (fun _ h => all_nil h) h) h) h) h) (.d (.v _))

theorem mut_Stamp.says (a0 : Int) (a1 : api_Mut) : Says Try.prog 16 [] [.i a0, .d (eG30 a1)] [] (.d (eG37 (mut_Stamp a0 a1))) := by
  obtain ⟨r, H⟩ : ∃ r, mut_Stamp a0 a1 = r := ⟨_, rfl⟩
  rw [H]
  refine says_of Try.func16 rfl (nt := 11) rfl (Nat.le_of_ble_eq_true rfl) fun X hP h0 hX => ?_
  have hT : TabOk X.P T := hP ▸ tok
  have hf : X.P.funcs[16]? = some Try.f16 := hP ▸ Try.func16
  refine goK hT 15 (K16 11 1) ⟨11, [(4, .ptr 1 0 0 0)], [.box 30 (eC30 a1), .box 37 [.i a0, .i a1.Client, .i a1.Seq]]⟩ ?_
  obtain rfl := H
  exact ak_retM hT hf hX (av := .d (.agg [.i a0, .i a1.Client, .i a1.Seq])) (by kernel_rfl) [] (sel_of_eq (by kernel_rfl)) (by decide) (by rw [h0]; rfl) (by kernel_rfl) (fun _ h => all_nil h) (.d (.agg (api_Stamp.nl _)))

theorem hold_item_stamp.says (a0 : Nat) (dom : List Nat) (M : Nat → hold_item) {r : api_Stamp} (H : hold_item_stamp a0 dom M = some r) : Says Try.prog 44 [.obj (arO hold_item.e hold_item.nl 95 dom M)] [.d (pA a0 0)] [.obj (arO hold_item.e hold_item.nl 95 dom M)] (.d (eG37 r)) := by
  refine says_of Try.func44 rfl (nt := 14) rfl (Nat.le_of_ble_eq_true rfl) fun X hP h0 hX => ?_
  have hT : TabOk X.P T := hP ▸ tok
  have hf : X.P.funcs[44]? = some Try.f44 := hP ▸ Try.func44
  refine goK hT 5 (K44 11 0) ⟨14, [(0, .d (pA a0 0)), (2, .ptr 1 0 0 0)], [.obj (arO hold_item.e hold_item.nl 95 dom M), .box 37 [.i 0, .i 0, .i 0]]⟩ ?_
  obtain ⟨h1, H⟩ := iC H
  refine drawK (hP ▸ mixed) 10 [0, 2] [some (.d (pA a0 0)), some (.d (pA a0 0)), some (.d (pA a0 0)), some (.d (pA a0 7)), some (.i (((M a0).h).Time)), some (.d (pA a0 0)), some (.d (pA a0 0)), some (.d (pA a0 0)), some (.d (pA a0 0)), some (.d (.agg [.i ((((M a0).h).M).Client), .i ((((M a0).h).M).Seq), .i ((((M a0).h).M).Kind), eL70 true ((((M a0).h).M).Pairs), .i (((((M a0).h).M).Over).Lo), .i (((((M a0).h).M).Over).Hi), .i ((((M a0).h).M).Old)]))] (opS (opG (opG (opG (opG (opS (opG (opG (opG (opG op0 hT) hT) hT) hT) (fun R rest h => ak_lda0 hT (e := hold_item.e) (he := hold_item.nl) (ty := 95) (dom := dom) (m := M) 0 (a := a0) (off := 7) (s := 1) (agg := false) (dst := some 7) [.i (((M a0).h).Time)] (by kernel_rfl) (by kernel_rfl) h1 rfl rfl (fun _ => rfl) (by kernel_rfl) h)) hT) hT) hT) hT) (fun R rest h => ak_lda0 hT (e := hold_item.e) (he := hold_item.nl) (ty := 95) (dom := dom) (m := M) 0 (a := a0) (off := 0) (s := 7) (agg := true) (dst := some 12) [.i ((((M a0).h).M).Client), .i ((((M a0).h).M).Seq), .i ((((M a0).h).M).Kind), eL70 true ((((M a0).h).M).Pairs), .i (((((M a0).h).M).Over).Lo), .i (((((M a0).h).M).Over).Hi), .i ((((M a0).h).M).Old)] (by kernel_rfl) (by kernel_rfl) h1 rfl rfl (fun h => by cases h) (by kernel_rfl) h)) ?_
  refine goK hT 0 (K44 110 10) ⟨14, [(2, .ptr 1 0 0 0), (7, .i (((M a0).h).Time)), (12, .d (.agg [.i ((((M a0).h).M).Client), .i ((((M a0).h).M).Seq), .i ((((M a0).h).M).Kind), eL70 true ((((M a0).h).M).Pairs), .i (((((M a0).h).M).Over).Lo), .i (((((M a0).h).M).Over).Hi), .i ((((M a0).h).M).Old)]))], [.obj (arO hold_item.e hold_item.nl 95 dom M), .box 37 [.i 0, .i 0, .i 0]]⟩ ?_
  refine ak_callP (avs := [.i (((M a0).h).Time), .d (.agg [.i ((((M a0).h).M).Client), .i ((((M a0).h).M).Seq), .i ((((M a0).h).M).Kind), eL70 true ((((M a0).h).M).Pairs), .i (((((M a0).h).M).Over).Lo), .i (((((M a0).h).M).Over).Hi), .i ((((M a0).h).M).Old)])]) (dst := some 13) (k' := (K44 110 11)) [2, 13] [] hP enters_16 (mut_Stamp.says (((M a0).h).Time) (⟨(((M a0).h).M).Client, (((M a0).h).M).Seq, (((M a0).h).M).Kind, (((M a0).h).M).Pairs, (⟨((((M a0).h).M).Over).Lo, ((((M a0).h).M).Over).Hi⟩ : api_Span), (((M a0).h).M).Old⟩ : api_Mut)) (by kernel_rfl) (hands_none _) (.cons (pass_d _) (.cons (pass_d _) .nil)) (st' := ⟨14, [(2, .ptr 1 0 0 0), (13, .d (eG37 (mut_Stamp (((M a0).h).Time) (⟨(((M a0).h).M).Client, (((M a0).h).M).Seq, (((M a0).h).M).Kind, (((M a0).h).M).Pairs, (⟨((((M a0).h).M).Over).Lo, ((((M a0).h).M).Over).Hi⟩ : api_Span), (((M a0).h).M).Old⟩ : api_Mut))))], [.obj (arO hold_item.e hold_item.nl 95 dom M), .box 37 [.i 0, .i 0, .i 0]]⟩) (by kernel_rfl) ?_
  obtain ⟨v1, h2, H⟩ := idC H
  rw [← h2]
  refine goK hT 2 (K44 11 1) ⟨14, [(2, .ptr 1 0 0 0)], [.obj (arO hold_item.e hold_item.nl 95 dom M), .box 37 (eC37 v1)]⟩ ?_
  obtain rfl := retC H
  exact ak_retM hT hf hX (av := .d (eG37 v1)) (by kernel_rfl) [0] (sel_of_eq (by kernel_rfl)) (by decide) (by rw [h0]; rfl) (by kernel_rfl) (fun _ h => all_cons (.obj _) (fun _ h => all_nil h) h) (.d (.agg (api_Stamp.nl _)))

theorem cmp_isNaN_int.says (a0 : Int) : Says Try.prog 56 [] [.i a0] [] (.b (cmp_isNaN_int a0)) := by
  obtain ⟨r, H⟩ : ∃ r, cmp_isNaN_int a0 = r := ⟨_, rfl⟩
  rw [H]
  refine says_of Try.func56 rfl (nt := 6) rfl (Nat.le_of_ble_eq_true rfl) fun X hP h0 hX => ?_
  have hT : TabOk X.P T := hP ▸ tok
  have hf : X.P.funcs[56]? = some Try.f56 := hP ▸ Try.func56
  refine goK hT 11 (K56 11 1) ⟨6, [(2, .b (a0 != a0))], []⟩ ?_
  obtain rfl := H
  exact ak_ret hf hX (av := .b (a0 != a0)) (by kernel_rfl) [] (sel_of_eq (by kernel_rfl)) (by decide) (by rw [h0]; rfl) (by kernel_rfl) (fun _ h => all_nil h) (.d (.v _))

theorem cmp_Compare_int.says (a0 : Int) (a1 : Int) : Says Try.prog 39 [] [.i a0, .i a1] [] (.i (cmp_Compare_int a0 a1)) := by
  obtain ⟨r, H⟩ : ∃ r, cmp_Compare_int a0 a1 = r := ⟨_, rfl⟩
  rw [H]
  refine says_of Try.func39 rfl (nt := 20) rfl (Nat.le_of_ble_eq_true rfl) fun X hP h0 hX => ?_
  have hT : TabOk X.P T := hP ▸ tok
  have hf : X.P.funcs[39]? = some Try.f39 := hP ▸ Try.func39
  refine goK hT 7 (K39 110 1) ⟨20, [(0, .i a0), (1, .i a1), (7, .i a0)], []⟩ ?_
  refine ak_callP (avs := [.i a0]) (dst := some 8) (k' := (K39 110 2)) [0, 1, 8] [] hP enters_56 (cmp_isNaN_int.says a0) (by kernel_rfl) (hands_none _) (.cons (pass_d _) .nil) (st' := ⟨20, [(0, .i a0), (1, .i a1), (8, .b (cmp_isNaN_int a0))], []⟩) (by kernel_rfl) ?_
  refine goK hT 5 (K39 1110 1) ⟨20, [(0, .i a0), (1, .i a1), (5, .b (cmp_isNaN_int a0)), (9, .i a1)], []⟩ ?_
  refine ak_callP (avs := [.i a1]) (dst := some 10) (k' := (K39 1110 2)) [0, 1, 5, 10] [] hP enters_56 (cmp_isNaN_int.says a1) (by kernel_rfl) (hands_none _) (.cons (pass_d _) .nil) (st' := ⟨20, [(0, .i a0), (1, .i a1), (5, .b (cmp_isNaN_int a0)), (10, .b (cmp_isNaN_int a1))], []⟩) (by kernel_rfl) ?_
  refine goK hT 7 (K39 11110 1) ⟨20, [(0, .i a0), (1, .i a1), (6, .b (cmp_isNaN_int a1)), (11, .b (cmp_isNaN_int a0))], []⟩ ?_
  by_cases c1 : (cmp_isNaN_int a0) = true
  · replace H := iT c1 H
    rw [c1]
    refine goK hT 6 (K39 11110100 1) ⟨20, [(12, .b (cmp_isNaN_int a1))], []⟩ ?_
    by_cases c2 : (cmp_isNaN_int a1) = true
    · replace H := iT c2 H
      rw [c2]
      refine goK hT 5 (K39 1111010010 1) ⟨20, [(4, .i 0)], []⟩ ?_
      obtain rfl := H
      exact ak_ret hf hX (av := .i 0) (by kernel_rfl) [] (sel_of_eq (by kernel_rfl)) (by decide) (by rw [h0]; rfl) (by kernel_rfl) (fun _ h => all_nil h) (.d (.v _))
    · replace H := iF c2 H
      rw [boF c2]
      refine goK hT 2 (K39 1111010 1) ⟨20, [], []⟩ ?_
      refine goK hT 4 (K39 11110101 1) ⟨20, [(4, .i (-1))], []⟩ ?_
      obtain rfl := H
      exact ak_ret hf hX (av := .i (-1)) (by kernel_rfl) [] (sel_of_eq (by kernel_rfl)) (by decide) (by rw [h0]; rfl) (by kernel_rfl) (fun _ h => all_nil h) (.d (.v _))
  · replace H := iF c1 H
    rw [boF c1]
    refine goK hT 2 (K39 1111 1) ⟨20, [(0, .i a0), (1, .i a1), (6, .b (cmp_isNaN_int a1))], []⟩ ?_
    refine goK hT 5 (K39 111110 1) ⟨20, [(0, .i a0), (1, .i a1), (13, .b (cmp_isNaN_int a1))], []⟩ ?_
    by_cases c3 : (cmp_isNaN_int a1) = true
    · replace H := iT c3 H
      rw [c3]
      refine goK hT 5 (K39 11111010 1) ⟨20, [(4, .i 1)], []⟩ ?_
      obtain rfl := H
      exact ak_ret hf hX (av := .i 1) (by kernel_rfl) [] (sel_of_eq (by kernel_rfl)) (by decide) (by rw [h0]; rfl) (by kernel_rfl) (fun _ h => all_nil h) (.d (.v _))
    · replace H := iF c3 H
      rw [boF c3]
      refine goK hT 2 (K39 11111 1) ⟨20, [(0, .i a0), (1, .i a1)], []⟩ ?_
      refine goK hT 7 (K39 1111110 1) ⟨20, [(0, .i a0), (1, .i a1), (16, .b (decide (a0 < a1)))], []⟩ ?_
      by_cases c4 : a0 < a1
      · replace H := iT c4 H
        rw [decide_eq_true c4]
        refine goK hT 5 (K39 111111010 1) ⟨20, [(4, .i (-1))], []⟩ ?_
        obtain rfl := H
        exact ak_ret hf hX (av := .i (-1)) (by kernel_rfl) [] (sel_of_eq (by kernel_rfl)) (by decide) (by rw [h0]; rfl) (by kernel_rfl) (fun _ h => all_nil h) (.d (.v _))
      · replace H := iF c4 H
        rw [decide_eq_false c4]
        refine goK hT 2 (K39 111111 1) ⟨20, [(0, .i a0), (1, .i a1)], []⟩ ?_
        refine goK hT 7 (K39 11111110 1) ⟨20, [(19, .b (decide (a0 > a1)))], []⟩ ?_
        by_cases c5 : a0 > a1
        · replace H := iT c5 H
          rw [decide_eq_true c5]
          refine goK hT 5 (K39 1111111010 1) ⟨20, [(4, .i 1)], []⟩ ?_
          obtain rfl := H
          exact ak_ret hf hX (av := .i 1) (by kernel_rfl) [] (sel_of_eq (by kernel_rfl)) (by decide) (by rw [h0]; rfl) (by kernel_rfl) (fun _ h => all_nil h) (.d (.v _))
        · replace H := iF c5 H
          rw [decide_eq_false c5]
          refine goK hT 2 (K39 1111111 1) ⟨20, [], []⟩ ?_
          refine goK hT 4 (K39 11111111 1) ⟨20, [(4, .i 0)], []⟩ ?_
          obtain rfl := H
          exact ak_ret hf hX (av := .i 0) (by kernel_rfl) [] (sel_of_eq (by kernel_rfl)) (by decide) (by rw [h0]; rfl) (by kernel_rfl) (fun _ h => all_nil h) (.d (.v _))

theorem cmp_Or_int.says {t0 : Bool} (a0 : List Int) {r : Int} (H : cmp_Or_int a0 = some r) : Says Try.prog 38 [] [.d (eL3 t0 a0)] [] (.i r) := by
  refine says_of Try.func38 rfl (nt := 18) rfl (Nat.le_of_ble_eq_true rfl) fun X hP h0 hX => ?_
  have hT : TabOk X.P T := hP ▸ tok
  have hf : X.P.funcs[38]? = some Try.f38 := hP ▸ Try.func38
  refine goK hT 17 (K38 111010 0) ⟨18, [(3, .i 0), (6, .d (eL3 t0 a0)), (7, .i (a0.length : Int)), (8, .i 0)], []⟩ ?_
  have L : ∀ n, (∀ (x1_8 : Int), iter (cmp_Or_int.step a0) n (.l1 x1_8) = some r → AK X 38 ((K38 111010 0)) (Back X [] (.i r)) ⟨18, [(3, .i 0), (6, .d (eL3 t0 a0)), (7, .i (a0.length : Int)), (8, .i x1_8)], []⟩) := by
    intro n
    induction n with
    | zero => exact fun _ H => iter0 H
    | succ n ih =>
      · intro x1_8 H
        refine goK hT 5 (K38 11101001 0) ⟨18, [(3, .i 0), (6, .d (eL3 t0 a0)), (7, .i (a0.length : Int)), (8, .i x1_8), (9, .b (decide (x1_8 < (a0.length : Int))))], []⟩ ?_
        by_cases c1 : x1_8 < (a0.length : Int)
        · replace H := sT c1 H
          rw [decide_eq_true c1]
          refine goK hT 2 (K38 11101001 1) ⟨18, [(3, .i 0), (6, .d (eL3 t0 a0)), (7, .i (a0.length : Int)), (8, .i x1_8)], []⟩ ?_
          refine goK hT 4 (K38 111010011000 0) ⟨18, [(3, .i 0), (6, .d (eL3 t0 a0)), (7, .i (a0.length : Int)), (8, .i x1_8)], []⟩ ?_
          obtain ⟨h2, H⟩ := sC H
          refine ak_idx hT [3, 6, 7, 8, 10] (i := x1_8) (n := (a0.length : Int)) h2.1 h2.2 (k' := (K38 111010011000 1)) (st' := ⟨18, [(3, .i 0), (6, .d (eL3 t0 a0)), (7, .i (a0.length : Int)), (8, .i x1_8), (10, .d (eP3 t0 a0 x1_8.toNat 0))], []⟩) (by kernel_rfl) ?_
          refine goK hT 9 (K38 111010011001 1) ⟨18, [(3, .i 0), (5, .i (a0.getD x1_8.toNat 0)), (6, .d (eL3 t0 a0)), (7, .i (a0.length : Int)), (8, .i x1_8), (14, .b ((a0.getD x1_8.toNat 0) != 0))], []⟩ ?_
          by_cases c3 : (a0.getD x1_8.toNat 0) = 0
          · replace H := sT c3 H
            rw [neF c3]
            refine goK hT 3 (K38 111010011 1) ⟨18, [(3, .i 0), (6, .d (eL3 t0 a0)), (7, .i (a0.length : Int)), (8, .i x1_8)], []⟩ ?_
            refine goK hT 5 (K38 111010 0) ⟨18, [(3, .i 0), (6, .d (eL3 t0 a0)), (7, .i (a0.length : Int)), (8, .i (IntKind.wrap .i64 (x1_8 + 1)))], []⟩ ?_
            refine cutK [] ⟨18, [(3, .i 0), (6, .d (eL3 t0 a0)), (7, .i (a0.length : Int)), (8, .i (IntKind.wrap .i64 (x1_8 + 1)))], []⟩ h0 ?_
            exact ih (IntKind.wrap .i64 (x1_8 + 1)) H
          · replace H := sF c3 H
            rw [neT c3]
            refine goK hT 6 (K38 11101001100110 1) ⟨18, [(2, .i (a0.getD x1_8.toNat 0))], []⟩ ?_
            obtain rfl := retC H
            exact ak_ret hf hX (av := .i (a0.getD x1_8.toNat 0)) (by kernel_rfl) [] (sel_of_eq (by kernel_rfl)) (by decide) (by rw [h0]; rfl) (by kernel_rfl) (fun _ h => all_nil h) (.d (.v _))
        · replace H := sF c1 H
          rw [decide_eq_false c1]
          refine goK hT 7 (K38 1111 1) ⟨18, [(2, .i 0)], []⟩ ?_
          obtain rfl := retC H
          exact ak_ret hf hX (av := .i 0) (by kernel_rfl) [] (sel_of_eq (by kernel_rfl)) (by decide) (by rw [h0]; rfl) (by kernel_rfl) (fun _ h => all_nil h) (.d (.v _))
  refine cutK [] ⟨18, [(3, .i 0), (6, .d (eL3 t0 a0)), (7, .i (a0.length : Int)), (8, .i 0)], []⟩ h0 ?_
  obtain ⟨n, H⟩ := loopC H
  exact (L n) 0 H

theorem mut_Compare.says (a0 : api_Stamp) (a1 : api_Stamp) {r : Int} (H : mut_Compare a0 a1 = some r) : Says Try.prog 17 [] [.d (eG37 a0), .d (eG37 a1)] [] (.i r) := by
  refine says_of Try.func17 rfl (nt := 22) rfl (Nat.le_of_ble_eq_true rfl) fun X hP h0 hX => ?_
  have hT : TabOk X.P T := hP ▸ tok
  have hf : X.P.funcs[17]? = some Try.f17 := hP ▸ Try.func17
  refine goK hT 7 (K17 11 0) ⟨22, [(2, .ptr 0 0 0 0), (3, .ptr 1 0 0 0)], [.box 37 (eC37 a0), .box 37 (eC37 a1)]⟩ ?_
  refine drawK (hP ▸ mixed) 14 [2, 3] [some (.ptr 0 0 0 0), some (.i a0.Time), some (.ptr 1 0 0 0), some (.i a1.Time), some (.i (cmp_Compare_int a0.Time a1.Time)), some (.ptr 0 0 0 1), some (.i a0.Client), some (.ptr 1 0 0 1), some (.i a1.Client), some (.i (cmp_Compare_int a0.Client a1.Client)), some (.ptr 0 0 0 2), some (.i a0.Seq), some (.ptr 1 0 0 2), some (.i a1.Seq)] (opG (opG (opG (opG (opS (opG (opG (opG (opG (opS (opG (opG (opG (opG op0 hT) hT) hT) hT) (fun R rest h => ak_callD (avs := [.i a0.Time, .i a1.Time]) (dst := some 9) hP enters_39 (cmp_Compare_int.says a0.Time a1.Time) (by kernel_rfl) (.cons (pass_d _) (.cons (pass_d _) .nil)) (by kernel_rfl) h)) hT) hT) hT) hT) (fun R rest h => ak_callD (avs := [.i a0.Client, .i a1.Client]) (dst := some 14) hP enters_39 (cmp_Compare_int.says a0.Client a1.Client) (by kernel_rfl) (.cons (pass_d _) (.cons (pass_d _) .nil)) (by kernel_rfl) h)) hT) hT) hT) hT) ?_
  refine goK hT 0 (K17 110 14) ⟨22, [(9, .i (cmp_Compare_int a0.Time a1.Time)), (14, .i (cmp_Compare_int a0.Client a1.Client)), (16, .i a0.Seq), (18, .i a1.Seq)], [.box 37 (eC37 a0), .box 37 (eC37 a1)]⟩ ?_
  refine ak_callP (avs := [.i a0.Seq, .i a1.Seq]) (dst := some 19) (k' := (K17 110 15)) [9, 14, 19] [] hP enters_39 (cmp_Compare_int.says a0.Seq a1.Seq) (by kernel_rfl) (hands_none _) (.cons (pass_d _) (.cons (pass_d _) .nil)) (st' := ⟨22, [(9, .i (cmp_Compare_int a0.Time a1.Time)), (14, .i (cmp_Compare_int a0.Client a1.Client)), (19, .i (cmp_Compare_int a0.Seq a1.Seq))], [.box 37 (eC37 a0), .box 37 (eC37 a1)]⟩) (by kernel_rfl) ?_
  refine goK hT 1 (K17 110 16) ⟨22, [(20, .own 2 1 0 3)], [.box 37 (eC37 a0), .box 37 (eC37 a1), .flat false 1 3 3 (fun j => [[.i (cmp_Compare_int a0.Time a1.Time)], [.i (cmp_Compare_int a0.Client a1.Client)], [.i (cmp_Compare_int a0.Seq a1.Seq)]].getD j [])]⟩ ?_
  refine ak_row 2 (kk := 1) (fz := false) (ty := 3) (n := ([cmp_Compare_int a0.Time a1.Time, cmp_Compare_int a0.Client a1.Client, cmp_Compare_int a0.Seq a1.Seq] : List Int).length) (vec (eI .i64) 0 ([cmp_Compare_int a0.Time a1.Time, cmp_Compare_int a0.Client a1.Client, cmp_Compare_int a0.Seq a1.Seq] : List Int)) (by kernel_rfl) vec_lit (st' := ⟨22, [(20, .own 2 1 0 (([cmp_Compare_int a0.Time a1.Time, cmp_Compare_int a0.Client a1.Client, cmp_Compare_int a0.Seq a1.Seq] : List Int).length))], [.box 37 (eC37 a0), .box 37 (eC37 a1), eR3 ([cmp_Compare_int a0.Time a1.Time, cmp_Compare_int a0.Client a1.Client, cmp_Compare_int a0.Seq a1.Seq] : List Int)]⟩) (by kernel_rfl) ?_
  obtain ⟨v1, h1, H⟩ := ibC H
  refine ak_callP (avs := [.own 2 1 0 (([cmp_Compare_int a0.Time a1.Time, cmp_Compare_int a0.Client a1.Client, cmp_Compare_int a0.Seq a1.Seq] : List Int).length)]) (dst := some 21) (k' := (K17 110 17)) [21] [] hP enters_38 (cmp_Or_int.says (t0 := false) ([cmp_Compare_int a0.Time a1.Time, cmp_Compare_int a0.Client a1.Client, cmp_Compare_int a0.Seq a1.Seq] : List Int) h1) (by kernel_rfl) (hands_none _) (.cons (.lend (ty := 3) (by kernel_rfl) rfl) .nil) (st' := ⟨22, [(21, .i v1)], [.box 37 (eC37 a0), .box 37 (eC37 a1), eR3 ([cmp_Compare_int a0.Time a1.Time, cmp_Compare_int a0.Client a1.Client, cmp_Compare_int a0.Seq a1.Seq] : List Int)]⟩) (by kernel_rfl) ?_
  refine goK hT 2 (K17 11 1) ⟨22, [(4, .i v1)], [.box 37 (eC37 a0), .box 37 (eC37 a1), eR3 ([cmp_Compare_int a0.Time a1.Time, cmp_Compare_int a0.Client a1.Client, cmp_Compare_int a0.Seq a1.Seq] : List Int)]⟩ ?_
  obtain rfl := retC H
  exact ak_ret hf hX (av := .i v1) (by kernel_rfl) [] (sel_of_eq (by kernel_rfl)) (by decide) (by rw [h0]; rfl) (by kernel_rfl) (fun _ h => all_nil h) (.d (.v _))

theorem hold_items_Less.says (a0 : hold_Queue) (a1 : Int) (a2 : Int) (dom : List Nat) (M : Nat → hold_item) {r : Bool × hold_Queue} (H : hold_items_Less a0 a1 a2 dom M = some r) : Says Try.prog 114 [.box 86 [.own 1 1 0 a0.h.l.length], eR89 a0.h.l, .obj (arO hold_item.e hold_item.nl 95 dom M)] [.ptr 0 0 0 0, .i a1, .i a2] [.box 86 [.own 3 1 0 r.2.h.l.length], .gone, .obj (arO hold_item.e hold_item.nl 95 dom M), eR89 r.2.h.l] (.b r.1) := by
  refine says_of Try.func114 rfl (nt := 25) rfl (Nat.le_of_ble_eq_true rfl) fun X hP h0 hX => ?_
  have hT : TabOk X.P T := hP ▸ tok
  have hf : X.P.funcs[114]? = some Try.f114 := hP ▸ Try.func114
  refine ak_dup 1 (r := eR89 a0.h.l) rfl rfl (st' := ⟨25, [(0, .ptr 0 0 0 0), (1, .i a1), (2, .i a2)], [.box 86 [.own 3 1 0 a0.h.l.length], .gone, .obj (arO hold_item.e hold_item.nl 95 dom M), eR89 a0.h.l]⟩) (by kernel_rfl) (by kernel_rfl) rfl ?_
  refine goK hT 5 (K114 11 0) ⟨25, [(0, .ptr 0 0 0 0), (1, .i a1), (2, .i a2)], [.box 86 [.own 3 1 0 a0.h.l.length], .gone, .obj (arO hold_item.e hold_item.nl 95 dom M), eR89 a0.h.l]⟩ ?_
  obtain ⟨h1, H⟩ := iC H
  obtain ⟨v1, h2, H⟩ := ibC H
  obtain ⟨h3, H⟩ := iC H
  refine drawK (hP ▸ mixed) 15 [0, 1, 2] [some (.ptr 0 0 0 0), some (.ptr 0 0 0 0), some (.ptr 0 0 0 0), some (.own 3 1 0 a0.h.l.length), some (.i a1), some (.ptr 3 1 a1.toNat 0), some (.d (pA (a0.h.l.getD a1.toNat 0) 0)), some (.d (eG37 v1)), some (.ptr 0 0 0 0), some (.ptr 0 0 0 0), some (.ptr 0 0 0 0), some (.own 3 1 0 a0.h.l.length), some (.i a2), some (.ptr 3 1 a2.toNat 0), some (.d (pA (a0.h.l.getD a2.toNat 0) 0))] (opS (opS (opG (opG (opG (opG (opG (opS (opS (opS (opG (opG (opG (opG (opG op0 hT) hT) hT) hT) hT) (fun R rest h => ak_idx0 hT (i := a1) (n := (a0.h.l.length : Int)) h1.1 h1.2 (by kernel_rfl) h)) (fun R rest h => ak_ld0 hT (i := a1.toNat) (n := a0.h.l.length) (ltN h1.1 h1.2) (by kernel_rfl) h)) (fun R rest h => ak_callDR (avs := [.d (pA (a0.h.l.getD a1.toNat 0) 0)]) (dst := some 14) [2] hP enters_44 (hold_item_stamp.says (a0.h.l.getD a1.toNat 0) dom M h2) (by kernel_rfl) (hands_one rfl rfl) (.cons (pass_d _) .nil) (by kernel_rfl) h)) hT) hT) hT) hT) hT) (fun R rest h => ak_idx0 hT (i := a2) (n := (a0.h.l.length : Int)) h3.1 h3.2 (by kernel_rfl) h)) (fun R rest h => ak_ld0 hT (i := a2.toNat) (n := a0.h.l.length) (ltN h3.1 h3.2) (by kernel_rfl) h)) ?_
  refine goK hT 0 (K114 110 15) ⟨25, [(14, .d (eG37 v1)), (21, .d (pA (a0.h.l.getD a2.toNat 0) 0))], [.box 86 [.own 3 1 0 a0.h.l.length], .gone, .obj (arO hold_item.e hold_item.nl 95 dom M), eR89 a0.h.l]⟩ ?_
  obtain ⟨v2, h4, H⟩ := ibC H
  refine ak_callP (avs := [.d (pA (a0.h.l.getD a2.toNat 0) 0)]) (dst := some 22) (k' := (K114 110 16)) [14, 22] [2] hP enters_44 (hold_item_stamp.says (a0.h.l.getD a2.toNat 0) dom M h4) (by kernel_rfl) (hands_one rfl rfl) (.cons (pass_d _) .nil) (st' := ⟨25, [(14, .d (eG37 v1)), (22, .d (eG37 v2))], [.box 86 [.own 3 1 0 a0.h.l.length], .gone, .obj (arO hold_item.e hold_item.nl 95 dom M), eR89 a0.h.l]⟩) (by kernel_rfl) ?_
  obtain ⟨v3, h5, H⟩ := ibC H
  refine ak_callP (avs := [.d (eG37 v1), .d (eG37 v2)]) (dst := some 23) (k' := (K114 110 17)) [23] [] hP enters_17 (mut_Compare.says v1 v2 h5) (by kernel_rfl) (hands_none _) (.cons (pass_d _) (.cons (pass_d _) .nil)) (st' := ⟨25, [(23, .i v3)], [.box 86 [.own 3 1 0 a0.h.l.length], .gone, .obj (arO hold_item.e hold_item.nl 95 dom M), eR89 a0.h.l]⟩) (by kernel_rfl) ?_
  refine goK hT 3 (K114 11 1) ⟨25, [(6, .b (decide (v3 < 0)))], [.box 86 [.own 3 1 0 a0.h.l.length], .gone, .obj (arO hold_item.e hold_item.nl 95 dom M), eR89 a0.h.l]⟩ ?_
  obtain rfl := retC H
  exact ak_ret hf hX (av := .b (decide (v3 < 0))) (by kernel_rfl) [0, 1, 2, 3] (sel_of_eq (by kernel_rfl)) (by decide) (by rw [h0]; rfl) (by kernel_rfl) (fun _ h => all_cons (.box (.cons (.own _ _ _ _) .nil)) (fun _ h => all_cons .gone (fun _ h => all_cons (.obj _) (fun _ h => all_cons (nr_vec nlA) (fun _ h => all_nil h) h) h) h) h) (.d (.v _))

theorem hold_items_Swap.says (a0 : hold_Queue) (a1 : Int) (a2 : Int) (dom : List Nat) (M : Nat → hold_item) {r : hold_Queue × (Nat → hold_item)} (H : hold_items_Swap a0 a1 a2 dom M = some r) : Says Try.prog 117 [.box 86 [.own 1 1 0 a0.h.l.length], eR89 a0.h.l, .obj (arO hold_item.e hold_item.nl 95 dom M)] [.ptr 0 0 0 0, .i a1, .i a2] [.box 86 [.own 3 1 0 r.1.h.l.length], .gone, .obj (arO hold_item.e hold_item.nl 95 dom r.2), eR89 r.1.h.l] (.tup []) := by
  refine says_of Try.func117 rfl (nt := 52) rfl (Nat.le_of_ble_eq_true rfl) fun X hP h0 hX => ?_
  have hT : TabOk X.P T := hP ▸ tok
  have hf : X.P.funcs[117]? = some Try.f117 := hP ▸ Try.func117
  refine ak_dup 1 (r := eR89 a0.h.l) rfl rfl (st' := ⟨52, [(0, .ptr 0 0 0 0), (1, .i a1), (2, .i a2)], [.box 86 [.own 3 1 0 a0.h.l.length], .gone, .obj (arO hold_item.e hold_item.nl 95 dom M), eR89 a0.h.l]⟩) (by kernel_rfl) (by kernel_rfl) rfl ?_
  refine goK hT 1 (K117 1 0) ⟨52, [(0, .ptr 0 0 0 0), (1, .i a1), (2, .i a2)], [.box 86 [.own 3 1 0 a0.h.l.length], .gone, .obj (arO hold_item.e hold_item.nl 95 dom M), eR89 a0.h.l]⟩ ?_
  obtain ⟨h1, H⟩ := iC H
  obtain ⟨h2, H⟩ := iC H
  refine ak_drawAtM (nt := 52) (hP ▸ mixed) 26 [25] [0, 1, 2] [(0, .ptr 0 0 0 0), (1, .i a1), (2, .i a2)] [some (.ptr 0 0 0 0), some (.ptr 0 0 0 0), some (.ptr 0 0 0 0), some (.own 3 1 0 a0.h.l.length), some (.i a1), some (.ptr 0 0 0 0), some (.ptr 0 0 0 0), some (.ptr 0 0 0 0), some (.own 3 1 0 a0.h.l.length), some (.i a2), some (.ptr 0 0 0 0), some (.ptr 0 0 0 0), some (.ptr 0 0 0 0), some (.own 3 1 0 a0.h.l.length), some (.i a2), some (.ptr 3 1 a2.toNat 0), some (.d (pA (a0.h.l.getD a2.toNat 0) 0)), some (.ptr 0 0 0 0), some (.ptr 0 0 0 0), some (.ptr 0 0 0 0), some (.own 3 1 0 a0.h.l.length), some (.i a1), some (.ptr 3 1 a1.toNat 0), some (.d (pA (a0.h.l.getD a1.toNat 0) 0)), some (.ptr 3 1 a1.toNat 0), none] [[.box 86 [.own 3 1 0 a0.h.l.length], .gone, .obj (arO hold_item.e hold_item.nl 95 dom M), eR89 a0.h.l], [.box 86 [.own 3 1 0 a0.h.l.length], .gone, .obj (arO hold_item.e hold_item.nl 95 dom M), .flat false 1 89 a0.h.l.length (vec eA 0 (a0.h.l.set a1.toNat (a0.h.l.getD a2.toNat 0)))]] (by kernel_rfl) (by kernel_rfl) (by kernel_rfl) (by kernel_rfl) ⟨(opXM (opMS (opMS (opMS (opGM (opGM (opGM (opGM (opGM (opMS (opMS (opGM (opGM (opGM (opGM (opGM (opGM (opGM (opGM (opGM (opGM (opGM (opGM (opGM (opGM (opGM opM0 hT) hT) hT) hT) hT) hT) hT) hT) hT) hT) hT) hT) hT) hT) hT) (fun R rest h => ak_idx0 hT (i := a2) (n := (a0.h.l.length : Int)) h1.1 h1.2 (by kernel_rfl) h)) (fun R rest h => ak_ld0 hT (i := a2.toNat) (n := a0.h.l.length) (ltN h1.1 h1.2) (by kernel_rfl) h)) hT) hT) hT) hT) hT) (fun R rest h => ak_idx0 hT (i := a1) (n := (a0.h.l.length : Int)) h2.1 h2.2 (by kernel_rfl) h)) (fun R rest h => ak_ld0 hT (i := a1.toNat) (n := a0.h.l.length) (ltN h2.1 h2.2) (by kernel_rfl) h)) (fun R rest h => ak_idx0 hT (i := a1) (n := (a0.h.l.length : Int)) h2.1 h2.2 (by kernel_rfl) h))), (fun R rest h => ak_st0 (id := 3) (kk := 1) (i := a1.toNat) (off := 0) (s := 1) (n := a0.h.l.length) (ty := 89) (ds := [pA (a0.h.l.getD a2.toNat 0) 0]) (g := vec eA 0 a0.h.l) hT (vec eA 0 (a0.h.l.set a1.toNat (a0.h.l.getD a2.toNat 0))) (by kernel_rfl) (by kernel_rfl) (ltN h2.1 h2.2) ((vec_set (ltN h2.1 h2.2)).trans (by kernel_rfl)) vec_set_ne rfl h), (opXM (opNM (opNM (opNM (opNM (opNM (opNM (opNM (opNM (opNM (opNM (opNM (opNM (opNM (opNM (opNM (opGM (opNM (opNM (opNM (opNM (opNM (opNM (opNM (opNM (opNM opM0))))))))) hT)))))))))))))))))⟩ ?_
  refine ak_keep [0, 1, 2, 14, 15, 29] (st' := ⟨52, [(0, .ptr 0 0 0 0), (1, .i a1), (2, .i a2), (14, .own 3 1 0 (a0.h.l.length)), (15, .i a2), (29, .d (pA (a0.h.l.getD a1.toNat 0) 0))], [.box 86 [.own 3 1 0 (a0.h.l.length)], .gone, .obj (arO hold_item.e hold_item.nl 95 dom M), .flat false 1 89 a0.h.l.length (vec eA 0 (a0.h.l.set a1.toNat (a0.h.l.getD a2.toNat 0)))]⟩) (by kernel_rfl) ?_
  refine ak_eq (show a0.h.l.length = (a0.h.l.set a1.toNat (a0.h.l.getD a2.toNat 0)).length from by simp only [List.length_set]) (fun nn => ⟨52, [(0, .ptr 0 0 0 0), (1, .i a1), (2, .i a2), (14, .own 3 1 0 (nn)), (15, .i a2), (29, .d (pA (a0.h.l.getD a1.toNat 0) 0))], [.box 86 [.own 3 1 0 (nn)], .gone, .obj (arO hold_item.e hold_item.nl 95 dom M), .flat false 1 89 nn (vec eA 0 (a0.h.l.set a1.toNat (a0.h.l.getD a2.toNat 0)))]⟩) ?_
  obtain ⟨v1, h3, H⟩ := idC H
  rw [← h3]
  obtain ⟨h4, H⟩ := iC H
  refine ak_idx hT [0, 1, 2, 29, 31] (i := a2) (n := (v1.length : Int)) h4.1 h4.2 (k' := (K117 10 27)) (st' := ⟨52, [(0, .ptr 0 0 0 0), (1, .i a1), (2, .i a2), (29, .d (pA (a0.h.l.getD a1.toNat 0) 0)), (31, .ptr 3 1 a2.toNat 0)], [.box 86 [.own 3 1 0 v1.length], .gone, .obj (arO hold_item.e hold_item.nl 95 dom M), eR89 v1]⟩) (by kernel_rfl) ?_
  refine ak_st (id := 3) (kk := 1) (i := a2.toNat) (off := 0) (s := 1) (n := v1.length) (ty := 89) (ds := [pA (a0.h.l.getD a1.toNat 0) 0]) (g := vec eA 0 v1) (k' := (K117 10 28)) hT [0, 1, 2] (vec eA 0 (v1.set a2.toNat (a0.h.l.getD a1.toNat 0))) (by kernel_rfl) (by kernel_rfl) (ltN h4.1 h4.2) ((vec_set (ltN h4.1 h4.2)).trans (by kernel_rfl)) vec_set_ne (st' := ⟨52, [(0, .ptr 0 0 0 0), (1, .i a1), (2, .i a2)], [.box 86 [.own 3 1 0 (v1.length)], .gone, .obj (arO hold_item.e hold_item.nl 95 dom M), .flat false 1 89 v1.length (vec eA 0 (v1.set a2.toNat (a0.h.l.getD a1.toNat 0)))]⟩) (by kernel_rfl) ?_
  refine ak_eq (show v1.length = (v1.set a2.toNat (a0.h.l.getD a1.toNat 0)).length from (List.length_set ..).symm) (fun nn => ⟨52, [(0, .ptr 0 0 0 0), (1, .i a1), (2, .i a2)], [.box 86 [.own 3 1 0 (nn)], .gone, .obj (arO hold_item.e hold_item.nl 95 dom M), .flat false 1 89 nn (vec eA 0 (v1.set a2.toNat (a0.h.l.getD a1.toNat 0)))]⟩) ?_
  refine goK hT 1 (K117 1 1) ⟨52, [(0, .ptr 0 0 0 0), (1, .i a1), (2, .i a2)], [.box 86 [.own 3 1 0 ((v1.set a2.toNat (a0.h.l.getD a1.toNat 0)).length)], .gone, .obj (arO hold_item.e hold_item.nl 95 dom M), eR89 (v1.set a2.toNat (a0.h.l.getD a1.toNat 0))]⟩ ?_
  obtain ⟨h5, H⟩ := iC H
  obtain ⟨h6, H⟩ := iC H
  obtain ⟨h7, H⟩ := iC H
  refine ak_drawAtM (nt := 52) (hP ▸ mixed) 19 [18] [0, 1, 2] [(0, .ptr 0 0 0 0), (1, .i a1), (2, .i a2)] [some (.ptr 0 0 0 0), some (.ptr 0 0 0 0), some (.ptr 0 0 0 0), some (.own 3 1 0 ((v1.set a2.toNat (a0.h.l.getD a1.toNat 0)).length)), some (.i a1), some (.ptr 3 1 a1.toNat 0), some (.d (pA ((v1.set a2.toNat (a0.h.l.getD a1.toNat 0)).getD a1.toNat 0) 0)), some (.ptr 0 0 0 0), some (.ptr 0 0 0 0), some (.ptr 0 0 0 0), some (.own 3 1 0 ((v1.set a2.toNat (a0.h.l.getD a1.toNat 0)).length)), some (.i a2), some (.ptr 3 1 a2.toNat 0), some (.d (pA ((v1.set a2.toNat (a0.h.l.getD a1.toNat 0)).getD a2.toNat 0) 0)), some (.i a1), some (.i a2), some (.d (pA ((v1.set a2.toNat (a0.h.l.getD a1.toNat 0)).getD a1.toNat 0) 0)), some (.d (pA ((v1.set a2.toNat (a0.h.l.getD a1.toNat 0)).getD a1.toNat 0) 9)), none] [[.box 86 [.own 3 1 0 ((v1.set a2.toNat (a0.h.l.getD a1.toNat 0)).length)], .gone, .obj (arO hold_item.e hold_item.nl 95 dom M), eR89 (v1.set a2.toNat (a0.h.l.getD a1.toNat 0))], [.box 86 [.own 3 1 0 ((v1.set a2.toNat (a0.h.l.getD a1.toNat 0)).length)], .gone, .obj (arO hold_item.e hold_item.nl 95 dom (upd M ((v1.set a2.toNat (a0.h.l.getD a1.toNat 0)).getD a1.toNat 0) (⟨(⟨(⟨(((M ((v1.set a2.toNat (a0.h.l.getD a1.toNat 0)).getD a1.toNat 0)).h).M).Client, (((M ((v1.set a2.toNat (a0.h.l.getD a1.toNat 0)).getD a1.toNat 0)).h).M).Seq, (((M ((v1.set a2.toNat (a0.h.l.getD a1.toNat 0)).getD a1.toNat 0)).h).M).Kind, (((M ((v1.set a2.toNat (a0.h.l.getD a1.toNat 0)).getD a1.toNat 0)).h).M).Pairs, (⟨((((M ((v1.set a2.toNat (a0.h.l.getD a1.toNat 0)).getD a1.toNat 0)).h).M).Over).Lo, ((((M ((v1.set a2.toNat (a0.h.l.getD a1.toNat 0)).getD a1.toNat 0)).h).M).Over).Hi⟩ : api_Span), (((M ((v1.set a2.toNat (a0.h.l.getD a1.toNat 0)).getD a1.toNat 0)).h).M).Old⟩ : api_Mut), ((M ((v1.set a2.toNat (a0.h.l.getD a1.toNat 0)).getD a1.toNat 0)).h).Time, ((M ((v1.set a2.toNat (a0.h.l.getD a1.toNat 0)).getD a1.toNat 0)).h).Final⟩ : api_Held), a1⟩ : hold_item))), eR89 (v1.set a2.toNat (a0.h.l.getD a1.toNat 0))]] (by kernel_rfl) (by kernel_rfl) (by kernel_rfl) (by kernel_rfl) ⟨(opXM (opGM (opGM (opGM (opGM (opMS (opMS (opGM (opGM (opGM (opGM (opGM (opMS (opMS (opGM (opGM (opGM (opGM (opGM opM0 hT) hT) hT) hT) hT) (fun R rest h => ak_idx0 hT (i := a1) (n := ((v1.set a2.toNat (a0.h.l.getD a1.toNat 0)).length : Int)) h5.1 h5.2 (by kernel_rfl) h)) (fun R rest h => ak_ld0 hT (i := a1.toNat) (n := (v1.set a2.toNat (a0.h.l.getD a1.toNat 0)).length) (ltN h5.1 h5.2) (by kernel_rfl) h)) hT) hT) hT) hT) hT) (fun R rest h => ak_idx0 hT (i := a2) (n := ((v1.set a2.toNat (a0.h.l.getD a1.toNat 0)).length : Int)) h6.1 h6.2 (by kernel_rfl) h)) (fun R rest h => ak_ld0 hT (i := a2.toNat) (n := (v1.set a2.toNat (a0.h.l.getD a1.toNat 0)).length) (ltN h6.1 h6.2) (by kernel_rfl) h)) hT) hT) hT) hT)), (fun R rest h => ak_sta0 hT (e := hold_item.e) (he := hold_item.nl) (ty := 95) (dom := dom) (m := M) 2 (a := ((v1.set a2.toNat (a0.h.l.getD a1.toNat 0)).getD a1.toNat 0)) (off := 9) (s := 1) (ds := [.i a1]) (⟨(⟨(⟨(((M ((v1.set a2.toNat (a0.h.l.getD a1.toNat 0)).getD a1.toNat 0)).h).M).Client, (((M ((v1.set a2.toNat (a0.h.l.getD a1.toNat 0)).getD a1.toNat 0)).h).M).Seq, (((M ((v1.set a2.toNat (a0.h.l.getD a1.toNat 0)).getD a1.toNat 0)).h).M).Kind, (((M ((v1.set a2.toNat (a0.h.l.getD a1.toNat 0)).getD a1.toNat 0)).h).M).Pairs, (⟨((((M ((v1.set a2.toNat (a0.h.l.getD a1.toNat 0)).getD a1.toNat 0)).h).M).Over).Lo, ((((M ((v1.set a2.toNat (a0.h.l.getD a1.toNat 0)).getD a1.toNat 0)).h).M).Over).Hi⟩ : api_Span), (((M ((v1.set a2.toNat (a0.h.l.getD a1.toNat 0)).getD a1.toNat 0)).h).M).Old⟩ : api_Mut), ((M ((v1.set a2.toNat (a0.h.l.getD a1.toNat 0)).getD a1.toNat 0)).h).Time, ((M ((v1.set a2.toNat (a0.h.l.getD a1.toNat 0)).getD a1.toNat 0)).h).Final⟩ : api_Held), a1⟩ : hold_item) (by kernel_rfl) (by kernel_rfl) h7 (Nat.le_of_ble_eq_true rfl) rfl rfl h), (opXM (opNM (opNM (opGM (opNM (opNM (opNM (opNM (opNM (opNM (opNM (opNM (opNM (opNM (opNM (opNM (opNM (opNM (opNM opM0))))))))))))))) hT))))⟩ ?_
  obtain ⟨v2, h8, H⟩ := idC H
  rw [← h8]
  refine goK hT 2 (K117 11 21) ⟨52, [(47, .i a2), (51, .d (pA ((v1.set a2.toNat (a0.h.l.getD a1.toNat 0)).getD a2.toNat 0) 9))], [.box 86 [.own 3 1 0 ((v1.set a2.toNat (a0.h.l.getD a1.toNat 0)).length)], .gone, .obj (arO hold_item.e hold_item.nl 95 dom v2), eR89 (v1.set a2.toNat (a0.h.l.getD a1.toNat 0))]⟩ ?_
  obtain ⟨h9, H⟩ := iC H
  refine ak_sta hT [] (e := hold_item.e) (he := hold_item.nl) (ty := 95) (dom := dom) (m := v2) 2 (a := (v1.set a2.toNat (a0.h.l.getD a1.toNat 0)).getD a2.toNat 0) (off := 9) (s := 1) (ds := [.i a2]) (k' := (K117 11 22)) (⟨(⟨(⟨(((v2 ((v1.set a2.toNat (a0.h.l.getD a1.toNat 0)).getD a2.toNat 0)).h).M).Client, (((v2 ((v1.set a2.toNat (a0.h.l.getD a1.toNat 0)).getD a2.toNat 0)).h).M).Seq, (((v2 ((v1.set a2.toNat (a0.h.l.getD a1.toNat 0)).getD a2.toNat 0)).h).M).Kind, (((v2 ((v1.set a2.toNat (a0.h.l.getD a1.toNat 0)).getD a2.toNat 0)).h).M).Pairs, (⟨((((v2 ((v1.set a2.toNat (a0.h.l.getD a1.toNat 0)).getD a2.toNat 0)).h).M).Over).Lo, ((((v2 ((v1.set a2.toNat (a0.h.l.getD a1.toNat 0)).getD a2.toNat 0)).h).M).Over).Hi⟩ : api_Span), (((v2 ((v1.set a2.toNat (a0.h.l.getD a1.toNat 0)).getD a2.toNat 0)).h).M).Old⟩ : api_Mut), ((v2 ((v1.set a2.toNat (a0.h.l.getD a1.toNat 0)).getD a2.toNat 0)).h).Time, ((v2 ((v1.set a2.toNat (a0.h.l.getD a1.toNat 0)).getD a2.toNat 0)).h).Final⟩ : api_Held), a2⟩ : hold_item) (by kernel_rfl) (by kernel_rfl) h9 (Nat.le_of_ble_eq_true rfl) rfl (st' := ⟨52, [], [.box 86 [.own 3 1 0 ((v1.set a2.toNat (a0.h.l.getD a1.toNat 0)).length)], .gone, .obj (arO hold_item.e hold_item.nl 95 dom (upd v2 ((v1.set a2.toNat (a0.h.l.getD a1.toNat 0)).getD a2.toNat 0) (⟨(⟨(⟨(((v2 ((v1.set a2.toNat (a0.h.l.getD a1.toNat 0)).getD a2.toNat 0)).h).M).Client, (((v2 ((v1.set a2.toNat (a0.h.l.getD a1.toNat 0)).getD a2.toNat 0)).h).M).Seq, (((v2 ((v1.set a2.toNat (a0.h.l.getD a1.toNat 0)).getD a2.toNat 0)).h).M).Kind, (((v2 ((v1.set a2.toNat (a0.h.l.getD a1.toNat 0)).getD a2.toNat 0)).h).M).Pairs, (⟨((((v2 ((v1.set a2.toNat (a0.h.l.getD a1.toNat 0)).getD a2.toNat 0)).h).M).Over).Lo, ((((v2 ((v1.set a2.toNat (a0.h.l.getD a1.toNat 0)).getD a2.toNat 0)).h).M).Over).Hi⟩ : api_Span), (((v2 ((v1.set a2.toNat (a0.h.l.getD a1.toNat 0)).getD a2.toNat 0)).h).M).Old⟩ : api_Mut), ((v2 ((v1.set a2.toNat (a0.h.l.getD a1.toNat 0)).getD a2.toNat 0)).h).Time, ((v2 ((v1.set a2.toNat (a0.h.l.getD a1.toNat 0)).getD a2.toNat 0)).h).Final⟩ : api_Held), a2⟩ : hold_item))), eR89 (v1.set a2.toNat (a0.h.l.getD a1.toNat 0))]⟩) (by kernel_rfl) ?_
  obtain ⟨v3, h10, H⟩ := idC H
  rw [← h10]
  refine goK hT 1 [] ⟨52, [], [.box 86 [.own 3 1 0 ((v1.set a2.toNat (a0.h.l.getD a1.toNat 0)).length)], .gone, .obj (arO hold_item.e hold_item.nl 95 dom v3), eR89 (v1.set a2.toNat (a0.h.l.getD a1.toNat 0))]⟩ ?_
  obtain rfl := retC H
  exact ak_end hf hX (av := .tup []) (by kernel_rfl) [0, 1, 2, 3] (sel_of_eq (by kernel_rfl)) (by decide) (by rw [h0]; rfl) (by kernel_rfl) (fun _ h => all_cons (.box (.cons (.own _ _ _ _) .nil)) (fun _ h => all_cons .gone (fun _ h => all_cons (.obj _) (fun _ h => all_cons (nr_vec nlA) (fun _ h => all_nil h) h) h) h) h) (.tup .nil)

theorem heap_down_i92.says (a0 : hold_Queue) (a1 : Int) (a2 : Int) (dom : List Nat) (M : Nat → hold_item) {r : Bool × hold_Queue × (Nat → hold_item)} (H : heap_down_i92 a0 a1 a2 dom M = some r) : Says Try.prog 55 [.box 86 [.own 1 1 0 a0.h.l.length], eR89 a0.h.l, .obj (arO hold_item.e hold_item.nl 95 dom M)] [.ifc 92 (.ptr 0 0 0 0), .i a1, .i a2] [.box 86 [.own 3 1 0 r.2.1.h.l.length], .gone, .obj (arO hold_item.e hold_item.nl 95 dom r.2.2), eR89 r.2.1.h.l] (.b r.1) := by
  refine says_of Try.func55 rfl (nt := 48) rfl (Nat.le_of_ble_eq_true rfl) fun X hP h0 hX => ?_
  have hT : TabOk X.P T := hP ▸ tok
  have hf : X.P.funcs[55]? = some Try.f55 := hP ▸ Try.func55
  refine ak_dup 1 (r := eR89 a0.h.l) rfl rfl (st' := ⟨48, [(0, .ifc 92 (.ptr 0 0 0 0)), (1, .i a1), (2, .i a2)], [.box 86 [.own 3 1 0 a0.h.l.length], .gone, .obj (arO hold_item.e hold_item.nl 95 dom M), eR89 a0.h.l]⟩) (by kernel_rfl) (by kernel_rfl) rfl ?_
  refine goK hT 12 (K55 11100 0) ⟨48, [(0, .ifc 92 (.ptr 0 0 0 0)), (1, .i a1), (2, .i a2), (7, .i a1)], [.box 86 [.own 3 1 0 a0.h.l.length], .gone, .obj (arO hold_item.e hold_item.nl 95 dom M), eR89 a0.h.l]⟩ ?_
  have L : ∀ n, (∀ (x1_7 : Int) (x1_r2 : Nat → hold_item) (x1_r3 : List Nat), iter (heap_down_i92.step a1 a2 dom) n (.l1 x1_7 x1_r2 x1_r3) = some r → AK X 55 ((K55 11100 0)) (Back X [.box 86 [.own 3 1 0 r.2.1.h.l.length], .gone, .obj (arO hold_item.e hold_item.nl 95 dom r.2.2), eR89 r.2.1.h.l] (.b r.1)) ⟨48, [(0, .ifc 92 (.ptr 0 0 0 0)), (1, .i a1), (2, .i a2), (7, .i x1_7)], [.box 86 [.own 3 1 0 x1_r3.length], .gone, .obj (arO hold_item.e hold_item.nl 95 dom x1_r2), eR89 x1_r3]⟩) := by
    intro n
    induction n with
    | zero => exact fun _ _ _ H => iter0 H
    | succ n ih =>
      · intro x1_7 x1_r2 x1_r3 H
        have Jj1 : ∀ (y1_21 : Bool), stk (heap_down_i92.j1 a1 a2 dom x1_7 x1_r2 x1_r3 y1_21) (iter (heap_down_i92.step a1 a2 dom) n) = some r → AK X 55 ((K55 111000010 1)) (Back X [.box 86 [.own 3 1 0 r.2.1.h.l.length], .gone, .obj (arO hold_item.e hold_item.nl 95 dom r.2.2), eR89 r.2.1.h.l] (.b r.1)) ⟨48, [(0, .ifc 92 (.ptr 0 0 0 0)), (1, .i a1), (2, .i a2), (7, .i x1_7), (8, .i (IntKind.wrap .i64 ((IntKind.wrap .i64 (2 * x1_7)) + 1))), (21, .b y1_21)], [.box 86 [.own 3 1 0 x1_r3.length], .gone, .obj (arO hold_item.e hold_item.nl 95 dom x1_r2), eR89 x1_r3]⟩ := by
          intro y1_21 H
          by_cases c2 : y1_21 = true
          · replace H := sT c2 H
            rw [c2]
            refine goK hT 9 (K55 1111 1) ⟨48, [(6, .b (decide (x1_7 > a1)))], [.box 86 [.own 3 1 0 x1_r3.length], .gone, .obj (arO hold_item.e hold_item.nl 95 dom x1_r2), eR89 x1_r3]⟩ ?_
            obtain rfl := retC H
            exact ak_ret hf hX (av := .b (decide (x1_7 > a1))) (by kernel_rfl) [0, 1, 2, 3] (sel_of_eq (by kernel_rfl)) (by decide) (by rw [h0]; rfl) (by kernel_rfl) (fun _ h => all_cons (.box (.cons (.own _ _ _ _) .nil)) (fun _ h => all_cons .gone (fun _ h => all_cons (.obj _) (fun _ h => all_cons (nr_vec nlA) (fun _ h => all_nil h) h) h) h) h) (.d (.v _))
          · replace H := sF c2 H
            rw [boF c2]
            refine goK hT 2 (K55 11100001 1) ⟨48, [(0, .ifc 92 (.ptr 0 0 0 0)), (1, .i a1), (2, .i a2), (7, .i x1_7), (8, .i (IntKind.wrap .i64 ((IntKind.wrap .i64 (2 * x1_7)) + 1)))], [.box 86 [.own 3 1 0 x1_r3.length], .gone, .obj (arO hold_item.e hold_item.nl 95 dom x1_r2), eR89 x1_r3]⟩ ?_
            refine goK hT 11 (K55 111000011100 3) ⟨48, [(0, .ifc 92 (.ptr 0 0 0 0)), (1, .i a1), (2, .i a2), (7, .i x1_7), (8, .i (IntKind.wrap .i64 ((IntKind.wrap .i64 (2 * x1_7)) + 1))), (9, .i (IntKind.wrap .i64 ((IntKind.wrap .i64 (2 * x1_7)) + 1))), (10, .i (IntKind.wrap .i64 ((IntKind.wrap .i64 ((IntKind.wrap .i64 (2 * x1_7)) + 1)) + 1)))], [.box 86 [.own 3 1 0 x1_r3.length], .gone, .obj (arO hold_item.e hold_item.nl 95 dom x1_r2), eR89 x1_r3]⟩ ?_
            obtain ⟨v1, h3, H⟩ := sdC H
            have Jj2 : ∀ (y2_33 : Bool) (y2_r3 : List Nat), stk (heap_down_i92.j2 a1 dom x1_7 x1_r2 v1 y2_33 y2_r3) (iter (heap_down_i92.step a1 a2 dom) n) = some r → AK X 55 ((K55 111000011101 1)) (Back X [.box 86 [.own 3 1 0 r.2.1.h.l.length], .gone, .obj (arO hold_item.e hold_item.nl 95 dom r.2.2), eR89 r.2.1.h.l] (.b r.1)) ⟨48, [(0, .ifc 92 (.ptr 0 0 0 0)), (1, .i a1), (2, .i a2), (7, .i x1_7), (9, .i (IntKind.wrap .i64 ((IntKind.wrap .i64 (2 * x1_7)) + 1))), (10, .i v1), (33, .b y2_33)], [.box 86 [.own 3 1 0 y2_r3.length], .gone, .obj (arO hold_item.e hold_item.nl 95 dom x1_r2), eR89 y2_r3]⟩ := by
              intro y2_33 y2_r3 H
              have Jj3 : ∀ (y3_9 : Int), stk (heap_down_i92.j3 a1 dom x1_7 x1_r2 y2_r3 y3_9) (iter (heap_down_i92.step a1 a2 dom) n) = some r → AK X 55 ((K55 1110000111 1)) (Back X [.box 86 [.own 3 1 0 r.2.1.h.l.length], .gone, .obj (arO hold_item.e hold_item.nl 95 dom r.2.2), eR89 r.2.1.h.l] (.b r.1)) ⟨48, [(0, .ifc 92 (.ptr 0 0 0 0)), (1, .i a1), (2, .i a2), (7, .i x1_7), (9, .i y3_9)], [.box 86 [.own 3 1 0 y2_r3.length], .gone, .obj (arO hold_item.e hold_item.nl 95 dom x1_r2), eR89 y2_r3]⟩ := by
                intro y3_9 H
                refine goK hT 6 (K55 1110000111100 3) ⟨48, [(0, .ifc 92 (.ptr 0 0 0 0)), (1, .i a1), (2, .i a2), (7, .i x1_7), (9, .i y3_9), (35, .ifc 92 (.ptr 0 0 0 0)), (36, .i y3_9), (37, .i x1_7)], [.box 86 [.own 3 1 0 y2_r3.length], .gone, .obj (arO hold_item.e hold_item.nl 95 dom x1_r2), eR89 y2_r3]⟩ ?_
                obtain ⟨v3, h7, H⟩ := sbC H
                refine ak_callIP (x := .ptr 0 0 0 0) (avs := [.i y3_9, .i x1_7]) (dst := some 38) (k' := (K55 1110000111100 4)) [0, 1, 2, 7, 9, 38] [0, 3, 2] hP meth_92_Less enters_114 (hold_items_Less.says (⟨(⟨y2_r3⟩ : hold_items)⟩ : hold_Queue) y3_9 x1_7 dom x1_r2 h7) (by kernel_rfl) (fun _ _ h => by cases h) (fun _ _ h => by cases h) (hands_three rfl rfl rfl (by decide)) (.cons (.same (.ptr 0 0 0 0)) (.cons (pass_d _) (.cons (pass_d _) .nil))) (st' := ⟨48, [(0, .ifc 92 (.ptr 0 0 0 0)), (1, .i a1), (2, .i a2), (7, .i x1_7), (9, .i y3_9), (38, .b v3.1)], [.box 86 [.own 4 1 0 v3.2.h.l.length], .gone, .obj (arO hold_item.e hold_item.nl 95 dom x1_r2), .gone, eR89 v3.2.h.l]⟩) (by kernel_rfl) ?_
                refine goK hT 2 (K55 111000011110 1) ⟨48, [(0, .ifc 92 (.ptr 0 0 0 0)), (1, .i a1), (2, .i a2), (7, .i x1_7), (9, .i y3_9), (39, .b (!v3.1))], [.box 86 [.own 4 1 0 v3.2.h.l.length], .gone, .obj (arO hold_item.e hold_item.nl 95 dom x1_r2), .gone, eR89 v3.2.h.l]⟩ ?_
                by_cases c8 : v3.1 = true
                · replace H := sT c8 H
                  rw [c8]
                  refine goK hT 2 (K55 11100001111 1) ⟨48, [(0, .ifc 92 (.ptr 0 0 0 0)), (1, .i a1), (2, .i a2), (7, .i x1_7), (9, .i y3_9)], [.box 86 [.own 4 1 0 v3.2.h.l.length], .gone, .obj (arO hold_item.e hold_item.nl 95 dom x1_r2), .gone, eR89 v3.2.h.l]⟩ ?_
                  refine goK hT 5 (K55 1110000111110 3) ⟨48, [(0, .ifc 92 (.ptr 0 0 0 0)), (1, .i a1), (2, .i a2), (9, .i y3_9), (40, .ifc 92 (.ptr 0 0 0 0)), (41, .i x1_7), (42, .i y3_9)], [.box 86 [.own 4 1 0 v3.2.h.l.length], .gone, .obj (arO hold_item.e hold_item.nl 95 dom x1_r2), .gone, eR89 v3.2.h.l]⟩ ?_
                  obtain ⟨v4, h9, H⟩ := sbC H
                  refine ak_callIP (x := .ptr 0 0 0 0) (avs := [.i x1_7, .i y3_9]) (dst := some 43) (k' := (K55 1110000111110 4)) [0, 1, 2, 9] [0, 4, 2] hP meth_92_Swap enters_117 (hold_items_Swap.says (⟨(⟨v3.2.h.l⟩ : hold_items)⟩ : hold_Queue) x1_7 y3_9 dom x1_r2 h9) (by kernel_rfl) (fun _ _ h => by cases h) (fun _ _ h => by cases h) (hands_three rfl rfl rfl (by decide)) (.cons (.same (.ptr 0 0 0 0)) (.cons (pass_d _) (.cons (pass_d _) .nil))) (st' := ⟨48, [(0, .ifc 92 (.ptr 0 0 0 0)), (1, .i a1), (2, .i a2), (9, .i y3_9)], [.box 86 [.own 5 1 0 v4.1.h.l.length], .gone, .obj (arO hold_item.e hold_item.nl 95 dom v4.2), .gone, .gone, eR89 v4.1.h.l]⟩) (by kernel_rfl) ?_
                  refine goK hT 7 (K55 11100 0) ⟨48, [(0, .ifc 92 (.ptr 0 0 0 0)), (1, .i a1), (2, .i a2), (7, .i y3_9)], [.box 86 [.own 5 1 0 v4.1.h.l.length], .gone, .obj (arO hold_item.e hold_item.nl 95 dom v4.2), .gone, .gone, eR89 v4.1.h.l]⟩ ?_
                  refine cutK [0, 1, 2, 5] ⟨48, [(0, .ifc 92 (.ptr 0 0 0 0)), (1, .i a1), (2, .i a2), (7, .i y3_9)], [.box 86 [.own 3 1 0 v4.1.h.l.length], .gone, .obj (arO hold_item.e hold_item.nl 95 dom v4.2), eR89 v4.1.h.l]⟩ h0 ?_
                  exact ih y3_9 v4.2 v4.1.h.l H
                · replace H := sF c8 H
                  rw [boF c8]
                  refine goK hT 9 (K55 1111 1) ⟨48, [(6, .b (decide (x1_7 > a1)))], [.box 86 [.own 4 1 0 v3.2.h.l.length], .gone, .obj (arO hold_item.e hold_item.nl 95 dom x1_r2), .gone, eR89 v3.2.h.l]⟩ ?_
                  obtain rfl := retC H
                  exact ak_ret hf hX (av := .b (decide (x1_7 > a1))) (by kernel_rfl) [0, 1, 2, 4] (sel_of_eq (by kernel_rfl)) (by decide) (by rw [h0]; rfl) (by kernel_rfl) (fun _ h => all_cons (.box (.cons (.own _ _ _ _) .nil)) (fun _ h => all_cons .gone (fun _ h => all_cons (.obj _) (fun _ h => all_cons (nr_vec nlA) (fun _ h => all_nil h) h) h) h) h) (.d (.v _))
              by_cases c6 : y2_33 = true
              · replace H := sT c6 H
                rw [c6]
                refine goK hT 5 (K55 1110000111 1) ⟨48, [(0, .ifc 92 (.ptr 0 0 0 0)), (1, .i a1), (2, .i a2), (7, .i x1_7), (9, .i v1)], [.box 86 [.own 3 1 0 y2_r3.length], .gone, .obj (arO hold_item.e hold_item.nl 95 dom x1_r2), eR89 y2_r3]⟩ ?_
                refine cutK [0, 1, 2, 3] ⟨48, [(0, .ifc 92 (.ptr 0 0 0 0)), (1, .i a1), (2, .i a2), (7, .i x1_7), (9, .i v1)], [.box 86 [.own 3 1 0 y2_r3.length], .gone, .obj (arO hold_item.e hold_item.nl 95 dom x1_r2), eR89 y2_r3]⟩ h0 ?_
                exact Jj3 v1 H
              · replace H := sF c6 H
                rw [boF c6]
                refine goK hT 2 (K55 1110000111 1) ⟨48, [(0, .ifc 92 (.ptr 0 0 0 0)), (1, .i a1), (2, .i a2), (7, .i x1_7), (9, .i (IntKind.wrap .i64 ((IntKind.wrap .i64 (2 * x1_7)) + 1)))], [.box 86 [.own 3 1 0 y2_r3.length], .gone, .obj (arO hold_item.e hold_item.nl 95 dom x1_r2), eR89 y2_r3]⟩ ?_
                refine cutK [0, 1, 2, 3] ⟨48, [(0, .ifc 92 (.ptr 0 0 0 0)), (1, .i a1), (2, .i a2), (7, .i x1_7), (9, .i (IntKind.wrap .i64 ((IntKind.wrap .i64 (2 * x1_7)) + 1)))], [.box 86 [.own 3 1 0 y2_r3.length], .gone, .obj (arO hold_item.e hold_item.nl 95 dom x1_r2), eR89 y2_r3]⟩ h0 ?_
                exact Jj3 (IntKind.wrap .i64 ((IntKind.wrap .i64 (2 * x1_7)) + 1)) H
            rw [← h3]
            refine goK hT 7 (K55 1110000111010 4) ⟨48, [(0, .ifc 92 (.ptr 0 0 0 0)), (1, .i a1), (2, .i a2), (7, .i x1_7), (8, .i (IntKind.wrap .i64 ((IntKind.wrap .i64 (2 * x1_7)) + 1))), (9, .i (IntKind.wrap .i64 ((IntKind.wrap .i64 (2 * x1_7)) + 1))), (10, .i v1), (28, .b (decide (v1 < a2)))], [.box 86 [.own 3 1 0 x1_r3.length], .gone, .obj (arO hold_item.e hold_item.nl 95 dom x1_r2), eR89 x1_r3]⟩ ?_
            by_cases c4 : v1 < a2
            · replace H := sT c4 H
              rw [decide_eq_true c4]
              refine goK hT 3 (K55 1110000111010 7) ⟨48, [(0, .ifc 92 (.ptr 0 0 0 0)), (1, .i a1), (2, .i a2), (7, .i x1_7), (9, .i (IntKind.wrap .i64 ((IntKind.wrap .i64 (2 * x1_7)) + 1))), (10, .i v1), (28, .b true), (29, .ifc 92 (.ptr 0 0 0 0)), (30, .i v1), (31, .i (IntKind.wrap .i64 ((IntKind.wrap .i64 (2 * x1_7)) + 1)))], [.box 86 [.own 3 1 0 x1_r3.length], .gone, .obj (arO hold_item.e hold_item.nl 95 dom x1_r2), eR89 x1_r3]⟩ ?_
              obtain ⟨v2, h5, H⟩ := sbC H
              refine ak_callIP (x := .ptr 0 0 0 0) (avs := [.i v1, .i (IntKind.wrap .i64 ((IntKind.wrap .i64 (2 * x1_7)) + 1))]) (dst := some 32) (k' := (K55 1110000111010 8)) [0, 1, 2, 7, 9, 10, 28, 32] [0, 3, 2] hP meth_92_Less enters_114 (hold_items_Less.says (⟨(⟨x1_r3⟩ : hold_items)⟩ : hold_Queue) v1 (IntKind.wrap .i64 ((IntKind.wrap .i64 (2 * x1_7)) + 1)) dom x1_r2 h5) (by kernel_rfl) (fun _ _ h => by cases h) (fun _ _ h => by cases h) (hands_three rfl rfl rfl (by decide)) (.cons (.same (.ptr 0 0 0 0)) (.cons (pass_d _) (.cons (pass_d _) .nil))) (st' := ⟨48, [(0, .ifc 92 (.ptr 0 0 0 0)), (1, .i a1), (2, .i a2), (7, .i x1_7), (9, .i (IntKind.wrap .i64 ((IntKind.wrap .i64 (2 * x1_7)) + 1))), (10, .i v1), (28, .b true), (32, .b v2.1)], [.box 86 [.own 4 1 0 v2.2.h.l.length], .gone, .obj (arO hold_item.e hold_item.nl 95 dom x1_r2), .gone, eR89 v2.2.h.l]⟩) (by kernel_rfl) ?_
              refine goK hT 2 (K55 111000011101 1) ⟨48, [(0, .ifc 92 (.ptr 0 0 0 0)), (1, .i a1), (2, .i a2), (7, .i x1_7), (9, .i (IntKind.wrap .i64 ((IntKind.wrap .i64 (2 * x1_7)) + 1))), (10, .i v1), (33, .b v2.1)], [.box 86 [.own 4 1 0 v2.2.h.l.length], .gone, .obj (arO hold_item.e hold_item.nl 95 dom x1_r2), .gone, eR89 v2.2.h.l]⟩ ?_
              refine cutK [0, 1, 2, 4] ⟨48, [(0, .ifc 92 (.ptr 0 0 0 0)), (1, .i a1), (2, .i a2), (7, .i x1_7), (9, .i (IntKind.wrap .i64 ((IntKind.wrap .i64 (2 * x1_7)) + 1))), (10, .i v1), (33, .b v2.1)], [.box 86 [.own 3 1 0 v2.2.h.l.length], .gone, .obj (arO hold_item.e hold_item.nl 95 dom x1_r2), eR89 v2.2.h.l]⟩ h0 ?_
              exact Jj2 v2.1 v2.2.h.l H
            · replace H := sF c4 H
              rw [decide_eq_false c4]
              refine goK hT 6 (K55 111000011101 1) ⟨48, [(0, .ifc 92 (.ptr 0 0 0 0)), (1, .i a1), (2, .i a2), (7, .i x1_7), (9, .i (IntKind.wrap .i64 ((IntKind.wrap .i64 (2 * x1_7)) + 1))), (10, .i v1), (33, .b false)], [.box 86 [.own 3 1 0 x1_r3.length], .gone, .obj (arO hold_item.e hold_item.nl 95 dom x1_r2), eR89 x1_r3]⟩ ?_
              refine cutK [0, 1, 2, 3] ⟨48, [(0, .ifc 92 (.ptr 0 0 0 0)), (1, .i a1), (2, .i a2), (7, .i x1_7), (9, .i (IntKind.wrap .i64 ((IntKind.wrap .i64 (2 * x1_7)) + 1))), (10, .i v1), (33, .b false)], [.box 86 [.own 3 1 0 x1_r3.length], .gone, .obj (arO hold_item.e hold_item.nl 95 dom x1_r2), eR89 x1_r3]⟩ h0 ?_
              exact Jj2 false x1_r3 H
        refine goK hT 15 (K55 1110000100 4) ⟨48, [(0, .ifc 92 (.ptr 0 0 0 0)), (1, .i a1), (2, .i a2), (7, .i x1_7), (8, .i (IntKind.wrap .i64 ((IntKind.wrap .i64 (2 * x1_7)) + 1))), (18, .b (decide ((IntKind.wrap .i64 ((IntKind.wrap .i64 (2 * x1_7)) + 1)) ≥ a2)))], [.box 86 [.own 3 1 0 x1_r3.length], .gone, .obj (arO hold_item.e hold_item.nl 95 dom x1_r2), eR89 x1_r3]⟩ ?_
        by_cases c1 : (IntKind.wrap .i64 ((IntKind.wrap .i64 (2 * x1_7)) + 1)) ≥ a2
        · replace H := sT c1 H
          rw [decide_eq_true c1]
          refine goK hT 4 (K55 111000010 1) ⟨48, [(0, .ifc 92 (.ptr 0 0 0 0)), (1, .i a1), (2, .i a2), (7, .i x1_7), (8, .i (IntKind.wrap .i64 ((IntKind.wrap .i64 (2 * x1_7)) + 1))), (21, .b true)], [.box 86 [.own 3 1 0 x1_r3.length], .gone, .obj (arO hold_item.e hold_item.nl 95 dom x1_r2), eR89 x1_r3]⟩ ?_
          refine cutK [0, 1, 2, 3] ⟨48, [(0, .ifc 92 (.ptr 0 0 0 0)), (1, .i a1), (2, .i a2), (7, .i x1_7), (8, .i (IntKind.wrap .i64 ((IntKind.wrap .i64 (2 * x1_7)) + 1))), (21, .b true)], [.box 86 [.own 3 1 0 x1_r3.length], .gone, .obj (arO hold_item.e hold_item.nl 95 dom x1_r2), eR89 x1_r3]⟩ h0 ?_
          exact Jj1 true H
        · replace H := sF c1 H
          rw [decide_eq_false c1]
          refine goK hT 4 (K55 111000010 1) ⟨48, [(0, .ifc 92 (.ptr 0 0 0 0)), (1, .i a1), (2, .i a2), (7, .i x1_7), (8, .i (IntKind.wrap .i64 ((IntKind.wrap .i64 (2 * x1_7)) + 1))), (21, .b (decide ((IntKind.wrap .i64 ((IntKind.wrap .i64 (2 * x1_7)) + 1)) < 0)))], [.box 86 [.own 3 1 0 x1_r3.length], .gone, .obj (arO hold_item.e hold_item.nl 95 dom x1_r2), eR89 x1_r3]⟩ ?_
          refine cutK [0, 1, 2, 3] ⟨48, [(0, .ifc 92 (.ptr 0 0 0 0)), (1, .i a1), (2, .i a2), (7, .i x1_7), (8, .i (IntKind.wrap .i64 ((IntKind.wrap .i64 (2 * x1_7)) + 1))), (21, .b (decide ((IntKind.wrap .i64 ((IntKind.wrap .i64 (2 * x1_7)) + 1)) < 0)))], [.box 86 [.own 3 1 0 x1_r3.length], .gone, .obj (arO hold_item.e hold_item.nl 95 dom x1_r2), eR89 x1_r3]⟩ h0 ?_
          exact Jj1 (decide ((IntKind.wrap .i64 ((IntKind.wrap .i64 (2 * x1_7)) + 1)) < 0)) H
  refine cutK [0, 1, 2, 3] ⟨48, [(0, .ifc 92 (.ptr 0 0 0 0)), (1, .i a1), (2, .i a2), (7, .i a1)], [.box 86 [.own 3 1 0 a0.h.l.length], .gone, .obj (arO hold_item.e hold_item.nl 95 dom M), eR89 a0.h.l]⟩ h0 ?_
  obtain ⟨n, H⟩ := loopC H
  exact (L n) a1 M a0.h.l H

theorem heap_up_i92.says (a0 : hold_Queue) (a1 : Int) (dom : List Nat) (M : Nat → hold_item) {r : hold_Queue × (Nat → hold_item)} (H : heap_up_i92 a0 a1 dom M = some r) : Says Try.prog 53 [.box 86 [.own 1 1 0 a0.h.l.length], eR89 a0.h.l, .obj (arO hold_item.e hold_item.nl 95 dom M)] [.ifc 92 (.ptr 0 0 0 0), .i a1] [.box 86 [.own 3 1 0 r.1.h.l.length], .gone, .obj (arO hold_item.e hold_item.nl 95 dom r.2), eR89 r.1.h.l] (.tup []) := by
  refine says_of Try.func53 rfl (nt := 23) rfl (Nat.le_of_ble_eq_true rfl) fun X hP h0 hX => ?_
  have hT : TabOk X.P T := hP ▸ tok
  have hf : X.P.funcs[53]? = some Try.f53 := hP ▸ Try.func53
  refine ak_dup 1 (r := eR89 a0.h.l) rfl rfl (st' := ⟨23, [(0, .ifc 92 (.ptr 0 0 0 0)), (1, .i a1)], [.box 86 [.own 3 1 0 a0.h.l.length], .gone, .obj (arO hold_item.e hold_item.nl 95 dom M), eR89 a0.h.l]⟩) (by kernel_rfl) (by kernel_rfl) rfl ?_
  refine goK hT 2 (K53 10 0) ⟨23, [(0, .ifc 92 (.ptr 0 0 0 0)), (1, .i a1)], [.box 86 [.own 3 1 0 a0.h.l.length], .gone, .obj (arO hold_item.e hold_item.nl 95 dom M), eR89 a0.h.l]⟩ ?_
  have L : ∀ n, (∀ (x1_1 : Int) (x1_r2 : Nat → hold_item) (x1_r3 : List Nat), iter (heap_up_i92.step dom) n (.l1 x1_1 x1_r2 x1_r3) = some r → AK X 53 ((K53 10 0)) (Back X [.box 86 [.own 3 1 0 r.1.h.l.length], .gone, .obj (arO hold_item.e hold_item.nl 95 dom r.2), eR89 r.1.h.l] (.tup [])) ⟨23, [(0, .ifc 92 (.ptr 0 0 0 0)), (1, .i x1_1)], [.box 86 [.own 3 1 0 x1_r3.length], .gone, .obj (arO hold_item.e hold_item.nl 95 dom x1_r2), eR89 x1_r3]⟩) := by
    intro n
    induction n with
    | zero => exact fun _ _ _ H => iter0 H
    | succ n ih =>
      · intro x1_1 x1_r2 x1_r3 H
        replace H : stk (heap_up_i92.step dom (.l1 x1_1 x1_r2 x1_r3)) (iter (heap_up_i92.step dom) n) = some r := H
        simp only [heap_up_i92.step, heap_up_i92.l1] at H
        refine goK hT 7 (K53 10000 4) ⟨23, [(0, .ifc 92 (.ptr 0 0 0 0)), (1, .i x1_1), (4, .i (IntKind.wrap .i64 (Int.tdiv (IntKind.wrap .i64 (x1_1 - 1)) 2)))], [.box 86 [.own 3 1 0 x1_r3.length], .gone, .obj (arO hold_item.e hold_item.nl 95 dom x1_r2), eR89 x1_r3]⟩ ?_
        obtain ⟨v1, h1, H⟩ := sdC H
        have Jj1 : ∀ (y1_17 : Bool) (y1_r3 : List Nat), stk (heap_up_i92.j1 dom x1_1 x1_r2 v1 y1_17 y1_r3) (iter (heap_up_i92.step dom) n) = some r → AK X 53 ((K53 100010 1)) (Back X [.box 86 [.own 3 1 0 r.1.h.l.length], .gone, .obj (arO hold_item.e hold_item.nl 95 dom r.2), eR89 r.1.h.l] (.tup [])) ⟨23, [(0, .ifc 92 (.ptr 0 0 0 0)), (1, .i x1_1), (4, .i v1), (17, .b y1_17)], [.box 86 [.own 3 1 0 y1_r3.length], .gone, .obj (arO hold_item.e hold_item.nl 95 dom x1_r2), eR89 y1_r3]⟩ := by
          intro y1_17 y1_r3 H
          by_cases c4 : y1_17 = true
          · replace H := sT c4 H
            rw [c4]
            refine goK hT 2 [] ⟨23, [], [.box 86 [.own 3 1 0 y1_r3.length], .gone, .obj (arO hold_item.e hold_item.nl 95 dom x1_r2), eR89 y1_r3]⟩ ?_
            obtain rfl := retC H
            exact ak_end hf hX (av := .tup []) (by kernel_rfl) [0, 1, 2, 3] (sel_of_eq (by kernel_rfl)) (by decide) (by rw [h0]; rfl) (by kernel_rfl) (fun _ h => all_cons (.box (.cons (.own _ _ _ _) .nil)) (fun _ h => all_cons .gone (fun _ h => all_cons (.obj _) (fun _ h => all_cons (nr_vec nlA) (fun _ h => all_nil h) h) h) h) h) (.tup .nil)
          · replace H := sF c4 H
            rw [boF c4]
            refine goK hT 2 (K53 10001 1) ⟨23, [(0, .ifc 92 (.ptr 0 0 0 0)), (1, .i x1_1), (4, .i v1)], [.box 86 [.own 3 1 0 y1_r3.length], .gone, .obj (arO hold_item.e hold_item.nl 95 dom x1_r2), eR89 y1_r3]⟩ ?_
            refine goK hT 5 (K53 1000110 3) ⟨23, [(0, .ifc 92 (.ptr 0 0 0 0)), (4, .i v1), (18, .ifc 92 (.ptr 0 0 0 0)), (19, .i v1), (20, .i x1_1)], [.box 86 [.own 3 1 0 y1_r3.length], .gone, .obj (arO hold_item.e hold_item.nl 95 dom x1_r2), eR89 y1_r3]⟩ ?_
            obtain ⟨v3, h5, H⟩ := sbC H
            refine ak_callIP (x := .ptr 0 0 0 0) (avs := [.i v1, .i x1_1]) (dst := some 21) (k' := (K53 1000110 4)) [0, 4] [0, 3, 2] hP meth_92_Swap enters_117 (hold_items_Swap.says (⟨(⟨y1_r3⟩ : hold_items)⟩ : hold_Queue) v1 x1_1 dom x1_r2 h5) (by kernel_rfl) (fun _ _ h => by cases h) (fun _ _ h => by cases h) (hands_three rfl rfl rfl (by decide)) (.cons (.same (.ptr 0 0 0 0)) (.cons (pass_d _) (.cons (pass_d _) .nil))) (st' := ⟨23, [(0, .ifc 92 (.ptr 0 0 0 0)), (4, .i v1)], [.box 86 [.own 4 1 0 v3.1.h.l.length], .gone, .obj (arO hold_item.e hold_item.nl 95 dom v3.2), .gone, eR89 v3.1.h.l]⟩) (by kernel_rfl) ?_
            refine goK hT 7 (K53 10 0) ⟨23, [(0, .ifc 92 (.ptr 0 0 0 0)), (1, .i v1)], [.box 86 [.own 4 1 0 v3.1.h.l.length], .gone, .obj (arO hold_item.e hold_item.nl 95 dom v3.2), .gone, eR89 v3.1.h.l]⟩ ?_
            refine cutK [0, 1, 2, 4] ⟨23, [(0, .ifc 92 (.ptr 0 0 0 0)), (1, .i v1)], [.box 86 [.own 3 1 0 v3.1.h.l.length], .gone, .obj (arO hold_item.e hold_item.nl 95 dom v3.2), eR89 v3.1.h.l]⟩ h0 ?_
            exact ih v1 v3.2 v3.1.h.l H
        rw [← h1]
        refine goK hT 8 (K53 1000100 4) ⟨23, [(0, .ifc 92 (.ptr 0 0 0 0)), (1, .i x1_1), (4, .i v1), (11, .b (v1 == x1_1))], [.box 86 [.own 3 1 0 x1_r3.length], .gone, .obj (arO hold_item.e hold_item.nl 95 dom x1_r2), eR89 x1_r3]⟩ ?_
        by_cases c2 : v1 = x1_1
        · replace H := sT c2 H
          rw [eqT c2]
          refine goK hT 7 (K53 100010 1) ⟨23, [(0, .ifc 92 (.ptr 0 0 0 0)), (1, .i x1_1), (4, .i v1), (17, .b true)], [.box 86 [.own 3 1 0 x1_r3.length], .gone, .obj (arO hold_item.e hold_item.nl 95 dom x1_r2), eR89 x1_r3]⟩ ?_
          refine cutK [0, 1, 2, 3] ⟨23, [(0, .ifc 92 (.ptr 0 0 0 0)), (1, .i x1_1), (4, .i v1), (17, .b true)], [.box 86 [.own 3 1 0 x1_r3.length], .gone, .obj (arO hold_item.e hold_item.nl 95 dom x1_r2), eR89 x1_r3]⟩ h0 ?_
          exact Jj1 true x1_r3 H
        · replace H := sF c2 H
          rw [eqF c2]
          refine goK hT 3 (K53 1000100 7) ⟨23, [(0, .ifc 92 (.ptr 0 0 0 0)), (1, .i x1_1), (4, .i v1), (11, .b false), (12, .ifc 92 (.ptr 0 0 0 0)), (13, .i x1_1), (14, .i v1)], [.box 86 [.own 3 1 0 x1_r3.length], .gone, .obj (arO hold_item.e hold_item.nl 95 dom x1_r2), eR89 x1_r3]⟩ ?_
          obtain ⟨v2, h3, H⟩ := sbC H
          refine ak_callIP (x := .ptr 0 0 0 0) (avs := [.i x1_1, .i v1]) (dst := some 15) (k' := (K53 1000100 8)) [0, 1, 4, 11, 15] [0, 3, 2] hP meth_92_Less enters_114 (hold_items_Less.says (⟨(⟨x1_r3⟩ : hold_items)⟩ : hold_Queue) x1_1 v1 dom x1_r2 h3) (by kernel_rfl) (fun _ _ h => by cases h) (fun _ _ h => by cases h) (hands_three rfl rfl rfl (by decide)) (.cons (.same (.ptr 0 0 0 0)) (.cons (pass_d _) (.cons (pass_d _) .nil))) (st' := ⟨23, [(0, .ifc 92 (.ptr 0 0 0 0)), (1, .i x1_1), (4, .i v1), (11, .b false), (15, .b v2.1)], [.box 86 [.own 4 1 0 v2.2.h.l.length], .gone, .obj (arO hold_item.e hold_item.nl 95 dom x1_r2), .gone, eR89 v2.2.h.l]⟩) (by kernel_rfl) ?_
          refine goK hT 3 (K53 100010 1) ⟨23, [(0, .ifc 92 (.ptr 0 0 0 0)), (1, .i x1_1), (4, .i v1), (17, .b (!v2.1))], [.box 86 [.own 4 1 0 v2.2.h.l.length], .gone, .obj (arO hold_item.e hold_item.nl 95 dom x1_r2), .gone, eR89 v2.2.h.l]⟩ ?_
          refine cutK [0, 1, 2, 4] ⟨23, [(0, .ifc 92 (.ptr 0 0 0 0)), (1, .i x1_1), (4, .i v1), (17, .b (!v2.1))], [.box 86 [.own 3 1 0 v2.2.h.l.length], .gone, .obj (arO hold_item.e hold_item.nl 95 dom x1_r2), eR89 v2.2.h.l]⟩ h0 ?_
          exact Jj1 (!v2.1) v2.2.h.l H
  refine cutK [0, 1, 2, 3] ⟨23, [(0, .ifc 92 (.ptr 0 0 0 0)), (1, .i a1)], [.box 86 [.own 3 1 0 a0.h.l.length], .gone, .obj (arO hold_item.e hold_item.nl 95 dom M), eR89 a0.h.l]⟩ h0 ?_
  obtain ⟨n, H⟩ := loopC H
  exact (L n) a1 M a0.h.l H

theorem heap_Fix_i92.says (a0 : hold_Queue) (a1 : Int) (dom : List Nat) (M : Nat → hold_item) {r : hold_Queue × (Nat → hold_item)} (H : heap_Fix_i92 a0 a1 dom M = some r) : Says Try.prog 36 [.box 86 [.own 1 1 0 a0.h.l.length], eR89 a0.h.l, .obj (arO hold_item.e hold_item.nl 95 dom M)] [.ifc 92 (.ptr 0 0 0 0), .i a1] [.box 86 [.own 3 1 0 r.1.h.l.length], .gone, .obj (arO hold_item.e hold_item.nl 95 dom r.2), eR89 r.1.h.l] (.tup []) := by
  refine says_of Try.func36 rfl (nt := 13) rfl (Nat.le_of_ble_eq_true rfl) fun X hP h0 hX => ?_
  have hT : TabOk X.P T := hP ▸ tok
  have hf : X.P.funcs[36]? = some Try.f36 := hP ▸ Try.func36
  refine ak_dup 1 (r := eR89 a0.h.l) rfl rfl (st' := ⟨13, [(0, .ifc 92 (.ptr 0 0 0 0)), (1, .i a1)], [.box 86 [.own 3 1 0 a0.h.l.length], .gone, .obj (arO hold_item.e hold_item.nl 95 dom M), eR89 a0.h.l]⟩) (by kernel_rfl) (by kernel_rfl) rfl ?_
  refine goK hT 5 (K36 10 3) ⟨13, [(0, .ifc 92 (.ptr 0 0 0 0)), (1, .i a1), (4, .ifc 92 (.ptr 0 0 0 0)), (5, .i a1), (6, .ifc 92 (.ptr 0 0 0 0))], [.box 86 [.own 3 1 0 a0.h.l.length], .gone, .obj (arO hold_item.e hold_item.nl 95 dom M), eR89 a0.h.l]⟩ ?_
  refine ak_callIP (x := .ptr 0 0 0 0) (avs := []) (dst := some 7) (k' := (K36 10 4)) [0, 1, 4, 5, 7] [0, 3, 2] hP meth_92_Len enters_113 (hold_items_Len.says (⟨(⟨a0.h.l⟩ : hold_items)⟩ : hold_Queue) dom M) (by kernel_rfl) (fun _ _ h => by cases h) (fun _ _ h => by cases h) (hands_three rfl rfl rfl (by decide)) (.cons (.same (.ptr 0 0 0 0)) .nil) (st' := ⟨13, [(0, .ifc 92 (.ptr 0 0 0 0)), (1, .i a1), (4, .ifc 92 (.ptr 0 0 0 0)), (5, .i a1), (7, .i ((hold_items_Len (⟨(⟨a0.h.l⟩ : hold_items)⟩ : hold_Queue) dom M).1))], [.box 86 [.own 4 1 0 (((((hold_items_Len (⟨(⟨a0.h.l⟩ : hold_items)⟩ : hold_Queue) dom M).2).h).l).length)], .gone, .obj (arO hold_item.e hold_item.nl 95 dom M), .gone, eR89 ((((hold_items_Len (⟨(⟨a0.h.l⟩ : hold_items)⟩ : hold_Queue) dom M).2).h).l)]⟩) (by kernel_rfl) ?_
  obtain ⟨v1, h1, H⟩ := idC H
  rw [← h1]
  obtain ⟨v2, h2, H⟩ := ibC H
  have Jj1 : ∀ (y1_r2 : Nat → hold_item) (y1_r3 : List Nat), (heap_Fix_i92.j1 y1_r2 y1_r3) = some r → AK X 36 ([]) (Back X [.box 86 [.own 3 1 0 r.1.h.l.length], .gone, .obj (arO hold_item.e hold_item.nl 95 dom r.2), eR89 r.1.h.l] (.tup [])) ⟨13, [], [.box 86 [.own 3 1 0 y1_r3.length], .gone, .obj (arO hold_item.e hold_item.nl 95 dom y1_r2), eR89 y1_r3]⟩ := by
    intro y1_r2 y1_r3 H
    obtain rfl := retC H
    exact ak_end hf hX (av := .tup []) (by kernel_rfl) [0, 1, 2, 3] (sel_of_eq (by kernel_rfl)) (by decide) (by rw [h0]; rfl) (by kernel_rfl) (fun _ h => all_cons (.box (.cons (.own _ _ _ _) .nil)) (fun _ h => all_cons .gone (fun _ h => all_cons (.obj _) (fun _ h => all_cons (nr_vec nlA) (fun _ h => all_nil h) h) h) h) h) (.tup .nil)
  refine ak_callP (avs := [.ifc 92 (.ptr 0 0 0 0), .i a1, .i v1.1]) (dst := some 8) (k' := (K36 10 5)) [0, 1, 8] [0, 4, 2] hP enters_55 (heap_down_i92.says (⟨(⟨((v1.2).h).l⟩ : hold_items)⟩ : hold_Queue) a1 v1.1 dom M h2) (by kernel_rfl) (hands_three rfl rfl rfl (by decide)) (.cons (.same (.ifc 92 (.ptr 0 0 0 0))) (.cons (pass_d _) (.cons (pass_d _) .nil))) (st' := ⟨13, [(0, .ifc 92 (.ptr 0 0 0 0)), (1, .i a1), (8, .b v2.1)], [.box 86 [.own 5 1 0 v2.2.1.h.l.length], .gone, .obj (arO hold_item.e hold_item.nl 95 dom v2.2.2), .gone, .gone, eR89 v2.2.1.h.l]⟩) (by kernel_rfl) ?_
  refine goK hT 2 (K36 1 1) ⟨13, [(0, .ifc 92 (.ptr 0 0 0 0)), (1, .i a1), (9, .b (!v2.1))], [.box 86 [.own 5 1 0 v2.2.1.h.l.length], .gone, .obj (arO hold_item.e hold_item.nl 95 dom v2.2.2), .gone, .gone, eR89 v2.2.1.h.l]⟩ ?_
  by_cases c3 : v2.1 = true
  · replace H := iT c3 H
    rw [c3]
    refine goK hT 2 [] ⟨13, [], [.box 86 [.own 5 1 0 v2.2.1.h.l.length], .gone, .obj (arO hold_item.e hold_item.nl 95 dom v2.2.2), .gone, .gone, eR89 v2.2.1.h.l]⟩ ?_
    refine cutK [0, 1, 2, 5] ⟨13, [], [.box 86 [.own 3 1 0 v2.2.1.h.l.length], .gone, .obj (arO hold_item.e hold_item.nl 95 dom v2.2.2), eR89 v2.2.1.h.l]⟩ h0 ?_
    exact Jj1 v2.2.2 v2.2.1.h.l H
  · replace H := iF c3 H
    rw [boF c3]
    refine goK hT 4 (K36 110 2) ⟨13, [(10, .ifc 92 (.ptr 0 0 0 0)), (11, .i a1)], [.box 86 [.own 5 1 0 v2.2.1.h.l.length], .gone, .obj (arO hold_item.e hold_item.nl 95 dom v2.2.2), .gone, .gone, eR89 v2.2.1.h.l]⟩ ?_
    obtain ⟨v3, h4, H⟩ := ibC H
    refine ak_callP (avs := [.ifc 92 (.ptr 0 0 0 0), .i a1]) (dst := some 12) (k' := (K36 110 3)) [] [0, 5, 2] hP enters_53 (heap_up_i92.says (⟨(⟨v2.2.1.h.l⟩ : hold_items)⟩ : hold_Queue) a1 dom v2.2.2 h4) (by kernel_rfl) (hands_three rfl rfl rfl (by decide)) (.cons (.same (.ifc 92 (.ptr 0 0 0 0))) (.cons (pass_d _) .nil)) (st' := ⟨13, [], [.box 86 [.own 6 1 0 v3.1.h.l.length], .gone, .obj (arO hold_item.e hold_item.nl 95 dom v3.2), .gone, .gone, .gone, eR89 v3.1.h.l]⟩) (by kernel_rfl) ?_
    refine goK hT 1 [] ⟨13, [], [.box 86 [.own 6 1 0 v3.1.h.l.length], .gone, .obj (arO hold_item.e hold_item.nl 95 dom v3.2), .gone, .gone, .gone, eR89 v3.1.h.l]⟩ ?_
    refine cutK [0, 1, 2, 6] ⟨13, [], [.box 86 [.own 3 1 0 v3.1.h.l.length], .gone, .obj (arO hold_item.e hold_item.nl 95 dom v3.2), eR89 v3.1.h.l]⟩ h0 ?_
    exact Jj1 v3.2 v3.1.h.l H

theorem hold_Queue_Final.says (a0 : hold_Queue) (a1 : Int) (a2 : Int) (a3 : Int) (dom : List Nat) (M : Nat → hold_item) {r : Int × hold_Queue × (Nat → hold_item)} (H : hold_Queue_Final a0 a1 a2 a3 dom M = some r) : Says Try.prog 13 [.box 86 [.own 1 1 0 a0.h.l.length], eR89 a0.h.l, .obj (arO hold_item.e hold_item.nl 95 dom M)] [.ptr 0 0 0 0, .i a1, .i a2, .i a3] [.box 86 [.own 3 1 0 r.2.1.h.l.length], .gone, .obj (arO hold_item.e hold_item.nl 95 dom r.2.2), eR89 r.2.1.h.l] (.i r.1) := by
  refine says_of Try.func13 rfl (nt := 56) rfl (Nat.le_of_ble_eq_true rfl) fun X hP h0 hX => ?_
  have hT : TabOk X.P T := hP ▸ tok
  have hf : X.P.funcs[13]? = some Try.f13 := hP ▸ Try.func13
  refine ak_dup 1 (r := eR89 a0.h.l) rfl rfl (st' := ⟨56, [(0, .ptr 0 0 0 0), (1, .i a1), (2, .i a2), (3, .i a3)], [.box 86 [.own 3 1 0 a0.h.l.length], .gone, .obj (arO hold_item.e hold_item.nl 95 dom M), eR89 a0.h.l]⟩) (by kernel_rfl) (by kernel_rfl) rfl ?_
  refine goK hT 17 (K13 1110 3) ⟨56, [(0, .ptr 0 0 0 0), (3, .i a3), (12, .ptr 0 0 0 0), (13, .i a1), (14, .i a2)], [.box 86 [.own 3 1 0 a0.h.l.length], .gone, .obj (arO hold_item.e hold_item.nl 95 dom M), eR89 a0.h.l]⟩ ?_
  obtain ⟨v1, h1, H⟩ := ibC H
  cases q2 : v1.1 with
  | none =>
      rw [q2] at H
      replace H := ioptN H
      have Sq2 := hold_Queue_find.says (⟨(⟨a0.h.l⟩ : hold_items)⟩ : hold_Queue) a1 a2 dom M h1
      rw [q2] at Sq2
      refine ak_callP (avs := [.ptr 0 0 0 0, .i a1, .i a2]) (dst := some 15) (k' := (K13 1110 4)) [0, 3, 15] [0, 3, 2] hP enters_33 (Sq2) (by kernel_rfl) (hands_three rfl rfl rfl (by decide)) (.cons (.same (.ptr 0 0 0 0)) (.cons (pass_d _) (.cons (pass_d _) .nil))) (st' := ⟨56, [(0, .ptr 0 0 0 0), (3, .i a3), (15, .d .np)], [.box 86 [.own 4 1 0 v1.2.h.l.length], .gone, .obj (arO hold_item.e hold_item.nl 95 dom M), .gone, eR89 v1.2.h.l]⟩) (by kernel_rfl) ?_
      refine goK hT 15 (K13 11110010 1) ⟨56, [(8, .i 4)], [.box 86 [.own 4 1 0 v1.2.h.l.length], .gone, .obj (arO hold_item.e hold_item.nl 95 dom M), .gone, eR89 v1.2.h.l]⟩ ?_
      obtain rfl := retC H
      exact ak_ret hf hX (av := .i 4) (by kernel_rfl) [0, 1, 2, 4] (sel_of_eq (by kernel_rfl)) (by decide) (by rw [h0]; rfl) (by kernel_rfl) (fun _ h => all_cons (.box (.cons (.own _ _ _ _) .nil)) (fun _ h => all_cons .gone (fun _ h => all_cons (.obj _) (fun _ h => all_cons (nr_vec nlA) (fun _ h => all_nil h) h) h) h) h) (.d (.v _))
  | some v2 =>
      rw [q2] at H
      replace H := ioptS H
      have Sq2 := hold_Queue_find.says (⟨(⟨a0.h.l⟩ : hold_items)⟩ : hold_Queue) a1 a2 dom M h1
      rw [q2] at Sq2
      refine ak_callP (avs := [.ptr 0 0 0 0, .i a1, .i a2]) (dst := some 15) (k' := (K13 1110 4)) [0, 3, 15] [0, 3, 2] hP enters_33 (Sq2) (by kernel_rfl) (hands_three rfl rfl rfl (by decide)) (.cons (.same (.ptr 0 0 0 0)) (.cons (pass_d _) (.cons (pass_d _) .nil))) (st' := ⟨56, [(0, .ptr 0 0 0 0), (3, .i a3), (15, .d (pA v2 0))], [.box 86 [.own 4 1 0 v1.2.h.l.length], .gone, .obj (arO hold_item.e hold_item.nl 95 dom M), .gone, eR89 v1.2.h.l]⟩) (by kernel_rfl) ?_
      refine goK hT 17 (K13 111100110 4) ⟨56, [(0, .ptr 0 0 0 0), (3, .i a3), (9, .d (pA v2 0)), (23, .d (pA v2 8))], [.box 86 [.own 4 1 0 v1.2.h.l.length], .gone, .obj (arO hold_item.e hold_item.nl 95 dom M), .gone, eR89 v1.2.h.l]⟩ ?_
      obtain ⟨h3, H⟩ := iC H
      refine ak_lda hT [0, 3, 9, 24] (e := hold_item.e) (he := hold_item.nl) (ty := 95) (dom := dom) (m := M) 2 (a := v2) (off := 8) (s := 1) (agg := false) (dst := some 24) (k' := (K13 111100110 5)) [.b (((M v2).h).Final)] (by kernel_rfl) (by kernel_rfl) h3 rfl rfl (fun _ => rfl) (st' := ⟨56, [(0, .ptr 0 0 0 0), (3, .i a3), (9, .d (pA v2 0)), (24, .b (((M v2).h).Final))], [.box 86 [.own 4 1 0 v1.2.h.l.length], .gone, .obj (arO hold_item.e hold_item.nl 95 dom M), .gone, eR89 v1.2.h.l]⟩) (by kernel_rfl) ?_
      refine goK hT 2 (K13 11110011 1) ⟨56, [(0, .ptr 0 0 0 0), (3, .i a3), (9, .d (pA v2 0)), (19, .b (((M v2).h).Final))], [.box 86 [.own 4 1 0 v1.2.h.l.length], .gone, .obj (arO hold_item.e hold_item.nl 95 dom M), .gone, eR89 v1.2.h.l]⟩ ?_
      by_cases c4 : (((M v2).h).Final) = true
      · replace H := iT c4 H
        rw [c4]
        refine goK hT 5 (K13 1111001110 1) ⟨56, [(8, .i 7)], [.box 86 [.own 4 1 0 v1.2.h.l.length], .gone, .obj (arO hold_item.e hold_item.nl 95 dom M), .gone, eR89 v1.2.h.l]⟩ ?_
        obtain rfl := retC H
        exact ak_ret hf hX (av := .i 7) (by kernel_rfl) [0, 1, 2, 4] (sel_of_eq (by kernel_rfl)) (by decide) (by rw [h0]; rfl) (by kernel_rfl) (fun _ h => all_cons (.box (.cons (.own _ _ _ _) .nil)) (fun _ h => all_cons .gone (fun _ h => all_cons (.obj _) (fun _ h => all_cons (nr_vec nlA) (fun _ h => all_nil h) h) h) h) h) (.d (.v _))
      · replace H := iF c4 H
        have Jj1 : ∀ (y1_25 : Bool), (hold_Queue_Final.j1 a3 dom M v1 v2 y1_25) = some r → AK X 13 ((K13 1111001111 1)) (Back X [.box 86 [.own 3 1 0 r.2.1.h.l.length], .gone, .obj (arO hold_item.e hold_item.nl 95 dom r.2.2), eR89 r.2.1.h.l] (.i r.1)) ⟨56, [(0, .ptr 0 0 0 0), (3, .i a3), (9, .d (pA v2 0)), (25, .b y1_25)], [.box 86 [.own 3 1 0 v1.2.h.l.length], .gone, .obj (arO hold_item.e hold_item.nl 95 dom M), eR89 v1.2.h.l]⟩ := by
          intro y1_25 H
          by_cases c6 : y1_25 = true
          · replace H := iT c6 H
            rw [c6]
            refine goK hT 5 (K13 111100111110 1) ⟨56, [(8, .i 1)], [.box 86 [.own 3 1 0 v1.2.h.l.length], .gone, .obj (arO hold_item.e hold_item.nl 95 dom M), eR89 v1.2.h.l]⟩ ?_
            obtain rfl := retC H
            exact ak_ret hf hX (av := .i 1) (by kernel_rfl) [0, 1, 2, 3] (sel_of_eq (by kernel_rfl)) (by decide) (by rw [h0]; rfl) (by kernel_rfl) (fun _ h => all_cons (.box (.cons (.own _ _ _ _) .nil)) (fun _ h => all_cons .gone (fun _ h => all_cons (.obj _) (fun _ h => all_cons (nr_vec nlA) (fun _ h => all_nil h) h) h) h) h) (.d (.v _))
          · replace H := iF c6 H
            rw [boF c6]
            refine goK hT 3 (K13 1111 1) ⟨56, [(0, .ptr 0 0 0 0), (3, .i a3), (9, .d (pA v2 0))], [.box 86 [.own 3 1 0 v1.2.h.l.length], .gone, .obj (arO hold_item.e hold_item.nl 95 dom M), eR89 v1.2.h.l]⟩ ?_
            refine goK hT 8 (K13 111110 6) ⟨56, [(0, .ptr 0 0 0 0), (9, .d (pA v2 0)), (39, .d (pA v2 0)), (40, .i a3), (43, .d (pA v2 7))], [.box 86 [.own 3 1 0 v1.2.h.l.length], .gone, .obj (arO hold_item.e hold_item.nl 95 dom M), eR89 v1.2.h.l]⟩ ?_
            refine ak_sta hT [0, 9, 39] (e := hold_item.e) (he := hold_item.nl) (ty := 95) (dom := dom) (m := M) 2 (a := v2) (off := 7) (s := 1) (ds := [.i a3]) (k' := (K13 111110 7)) (⟨(⟨(⟨(((M v2).h).M).Client, (((M v2).h).M).Seq, (((M v2).h).M).Kind, (((M v2).h).M).Pairs, (⟨((((M v2).h).M).Over).Lo, ((((M v2).h).M).Over).Hi⟩ : api_Span), (((M v2).h).M).Old⟩ : api_Mut), a3, ((M v2).h).Final⟩ : api_Held), (M v2).at_⟩ : hold_item) (by kernel_rfl) (by kernel_rfl) h3 (Nat.le_of_ble_eq_true rfl) rfl (st' := ⟨56, [(0, .ptr 0 0 0 0), (9, .d (pA v2 0)), (39, .d (pA v2 0))], [.box 86 [.own 3 1 0 v1.2.h.l.length], .gone, .obj (arO hold_item.e hold_item.nl 95 dom (upd M v2 (⟨(⟨(⟨(((M v2).h).M).Client, (((M v2).h).M).Seq, (((M v2).h).M).Kind, (((M v2).h).M).Pairs, (⟨((((M v2).h).M).Over).Lo, ((((M v2).h).M).Over).Hi⟩ : api_Span), (((M v2).h).M).Old⟩ : api_Mut), a3, ((M v2).h).Final⟩ : api_Held), (M v2).at_⟩ : hold_item))), eR89 v1.2.h.l]⟩) (by kernel_rfl) ?_
            obtain ⟨v3, h7, H⟩ := idC H
            rw [← h7]
            refine goK hT 3 (K13 111110 10) ⟨56, [(0, .ptr 0 0 0 0), (9, .d (pA v2 0)), (46, .d (pA v2 8))], [.box 86 [.own 3 1 0 v1.2.h.l.length], .gone, .obj (arO hold_item.e hold_item.nl 95 dom v3), eR89 v1.2.h.l]⟩ ?_
            refine ak_sta hT [0, 9] (e := hold_item.e) (he := hold_item.nl) (ty := 95) (dom := dom) (m := v3) 2 (a := v2) (off := 8) (s := 1) (ds := [.b true]) (k' := (K13 111110 11)) (⟨(⟨(⟨(((v3 v2).h).M).Client, (((v3 v2).h).M).Seq, (((v3 v2).h).M).Kind, (((v3 v2).h).M).Pairs, (⟨((((v3 v2).h).M).Over).Lo, ((((v3 v2).h).M).Over).Hi⟩ : api_Span), (((v3 v2).h).M).Old⟩ : api_Mut), ((v3 v2).h).Time, true⟩ : api_Held), (v3 v2).at_⟩ : hold_item) (by kernel_rfl) (by kernel_rfl) h3 (Nat.le_of_ble_eq_true rfl) rfl (st' := ⟨56, [(0, .ptr 0 0 0 0), (9, .d (pA v2 0))], [.box 86 [.own 3 1 0 v1.2.h.l.length], .gone, .obj (arO hold_item.e hold_item.nl 95 dom (upd v3 v2 (⟨(⟨(⟨(((v3 v2).h).M).Client, (((v3 v2).h).M).Seq, (((v3 v2).h).M).Kind, (((v3 v2).h).M).Pairs, (⟨((((v3 v2).h).M).Over).Lo, ((((v3 v2).h).M).Over).Hi⟩ : api_Span), (((v3 v2).h).M).Old⟩ : api_Mut), ((v3 v2).h).Time, true⟩ : api_Held), (v3 v2).at_⟩ : hold_item))), eR89 v1.2.h.l]⟩) (by kernel_rfl) ?_
            obtain ⟨v4, h8, H⟩ := idC H
            rw [← h8]
            refine goK hT 2 (K13 111111 0) ⟨56, [(0, .ptr 0 0 0 0), (9, .d (pA v2 0))], [.box 86 [.own 3 1 0 v1.2.h.l.length], .gone, .obj (arO hold_item.e hold_item.nl 95 dom v4), eR89 v1.2.h.l]⟩ ?_
            refine drawK (hP ▸ mixed) 8 [0, 9] [some (.ptr 0 0 0 0), some (.ptr 0 0 0 0), some (.ptr 0 0 0 0), some (.ifc 92 (.ptr 0 0 0 0)), some (.d (pA v2 0)), some (.d (pA v2 0)), some (.d (pA v2 9)), some (.i ((v4 v2).at_))] (opS (opG (opG (opG (opG (opG (opG (opG op0 hT) hT) hT) hT) hT) hT) hT) (fun R rest h => ak_lda0 hT (e := hold_item.e) (he := hold_item.nl) (ty := 95) (dom := dom) (m := v4) 2 (a := v2) (off := 9) (s := 1) (agg := false) (dst := some 54) [.i ((v4 v2).at_)] (by kernel_rfl) (by kernel_rfl) h3 rfl rfl (fun _ => rfl) (by kernel_rfl) h)) ?_
            refine goK hT 0 (K13 1111110 8) ⟨56, [(50, .ifc 92 (.ptr 0 0 0 0)), (54, .i ((v4 v2).at_))], [.box 86 [.own 3 1 0 v1.2.h.l.length], .gone, .obj (arO hold_item.e hold_item.nl 95 dom v4), eR89 v1.2.h.l]⟩ ?_
            obtain ⟨v5, h9, H⟩ := ibC H
            refine ak_callP (avs := [.ifc 92 (.ptr 0 0 0 0), .i ((v4 v2).at_)]) (dst := some 55) (k' := (K13 1111110 9)) [] [0, 3, 2] hP enters_36 (heap_Fix_i92.says (⟨(⟨v1.2.h.l⟩ : hold_items)⟩ : hold_Queue) ((v4 v2).at_) dom v4 h9) (by kernel_rfl) (hands_three rfl rfl rfl (by decide)) (.cons (.same (.ifc 92 (.ptr 0 0 0 0))) (.cons (pass_d _) .nil)) (st' := ⟨56, [], [.box 86 [.own 4 1 0 v5.1.h.l.length], .gone, .obj (arO hold_item.e hold_item.nl 95 dom v5.2), .gone, eR89 v5.1.h.l]⟩) (by kernel_rfl) ?_
            refine goK hT 5 (K13 1111111 1) ⟨56, [(8, .i 0)], [.box 86 [.own 4 1 0 v5.1.h.l.length], .gone, .obj (arO hold_item.e hold_item.nl 95 dom v5.2), .gone, eR89 v5.1.h.l]⟩ ?_
            obtain rfl := retC H
            exact ak_ret hf hX (av := .i 0) (by kernel_rfl) [0, 1, 2, 4] (sel_of_eq (by kernel_rfl)) (by decide) (by rw [h0]; rfl) (by kernel_rfl) (fun _ h => all_cons (.box (.cons (.own _ _ _ _) .nil)) (fun _ h => all_cons .gone (fun _ h => all_cons (.obj _) (fun _ h => all_cons (nr_vec nlA) (fun _ h => all_nil h) h) h) h) h) (.d (.v _))
        rw [boF c4]
        refine goK hT 8 (K13 11110011110 5) ⟨56, [(0, .ptr 0 0 0 0), (3, .i a3), (9, .d (pA v2 0)), (26, .i a3), (30, .d (pA v2 7))], [.box 86 [.own 4 1 0 v1.2.h.l.length], .gone, .obj (arO hold_item.e hold_item.nl 95 dom M), .gone, eR89 v1.2.h.l]⟩ ?_
        refine ak_lda hT [0, 3, 9, 26, 31] (e := hold_item.e) (he := hold_item.nl) (ty := 95) (dom := dom) (m := M) 2 (a := v2) (off := 7) (s := 1) (agg := false) (dst := some 31) (k' := (K13 11110011110 6)) [.i (((M v2).h).Time)] (by kernel_rfl) (by kernel_rfl) h3 rfl rfl (fun _ => rfl) (st' := ⟨56, [(0, .ptr 0 0 0 0), (3, .i a3), (9, .d (pA v2 0)), (26, .i a3), (31, .i (((M v2).h).Time))], [.box 86 [.own 4 1 0 v1.2.h.l.length], .gone, .obj (arO hold_item.e hold_item.nl 95 dom M), .gone, eR89 v1.2.h.l]⟩) (by kernel_rfl) ?_
        refine goK hT 2 (K13 11110011110 8) ⟨56, [(0, .ptr 0 0 0 0), (3, .i a3), (9, .d (pA v2 0)), (33, .b (decide (a3 < (((M v2).h).Time))))], [.box 86 [.own 4 1 0 v1.2.h.l.length], .gone, .obj (arO hold_item.e hold_item.nl 95 dom M), .gone, eR89 v1.2.h.l]⟩ ?_
        by_cases c5 : a3 < (((M v2).h).Time)
        · replace H := iT c5 H
          rw [decide_eq_true c5]
          refine goK hT 6 (K13 1111001111 1) ⟨56, [(0, .ptr 0 0 0 0), (3, .i a3), (9, .d (pA v2 0)), (25, .b true)], [.box 86 [.own 4 1 0 v1.2.h.l.length], .gone, .obj (arO hold_item.e hold_item.nl 95 dom M), .gone, eR89 v1.2.h.l]⟩ ?_
          refine cutK [0, 1, 2, 4] ⟨56, [(0, .ptr 0 0 0 0), (3, .i a3), (9, .d (pA v2 0)), (25, .b true)], [.box 86 [.own 3 1 0 v1.2.h.l.length], .gone, .obj (arO hold_item.e hold_item.nl 95 dom M), eR89 v1.2.h.l]⟩ h0 ?_
          exact Jj1 true H
        · replace H := iF c5 H
          rw [decide_eq_false c5]
          refine goK hT 1 (K13 11110011110 9) ⟨56, [(0, .ptr 0 0 0 0), (3, .i a3), (9, .d (pA v2 0)), (33, .b false), (34, .i a3)], [.box 86 [.own 4 1 0 v1.2.h.l.length], .gone, .obj (arO hold_item.e hold_item.nl 95 dom M), .gone, eR89 v1.2.h.l]⟩ ?_
          refine ak_callP (avs := [.i a3]) (dst := some 35) (k' := (K13 11110011110 10)) [0, 3, 9, 33, 35] [] hP enters_32 (hold_timed.says a3) (by kernel_rfl) (hands_none _) (.cons (pass_d _) .nil) (st' := ⟨56, [(0, .ptr 0 0 0 0), (3, .i a3), (9, .d (pA v2 0)), (33, .b false), (35, .b (hold_timed a3))], [.box 86 [.own 4 1 0 v1.2.h.l.length], .gone, .obj (arO hold_item.e hold_item.nl 95 dom M), .gone, eR89 v1.2.h.l]⟩) (by kernel_rfl) ?_
          refine goK hT 4 (K13 1111001111 1) ⟨56, [(0, .ptr 0 0 0 0), (3, .i a3), (9, .d (pA v2 0)), (25, .b (!(hold_timed a3)))], [.box 86 [.own 4 1 0 v1.2.h.l.length], .gone, .obj (arO hold_item.e hold_item.nl 95 dom M), .gone, eR89 v1.2.h.l]⟩ ?_
          refine cutK [0, 1, 2, 4] ⟨56, [(0, .ptr 0 0 0 0), (3, .i a3), (9, .d (pA v2 0)), (25, .b (!(hold_timed a3)))], [.box 86 [.own 3 1 0 v1.2.h.l.length], .gone, .obj (arO hold_item.e hold_item.nl 95 dom M), eR89 v1.2.h.l]⟩ h0 ?_
          exact Jj1 (!(hold_timed a3)) H

theorem hold_items_Pop.says (a0 : hold_Queue) (dom : List Nat) (M : Nat → hold_item) {r : Nat × hold_Queue} (H : hold_items_Pop a0 dom M = some r) : Says Try.prog 115 [.box 86 [.own 1 1 0 a0.h.l.length], eR89 a0.h.l, .obj (arO hold_item.e hold_item.nl 95 dom M)] [.ptr 0 0 0 0] [.box 86 [.own 3 1 0 r.2.h.l.length], .gone, .obj (arO hold_item.e hold_item.nl 95 dom M), eR89 r.2.h.l] (.d (.ifc 89 (pA r.1 0))) := by
  refine says_of Try.func115 rfl (nt := 29) rfl (Nat.le_of_ble_eq_true rfl) fun X hP h0 hX => ?_
  have hT : TabOk X.P T := hP ▸ tok
  have hf : X.P.funcs[115]? = some Try.f115 := hP ▸ Try.func115
  refine ak_dup 1 (r := eR89 a0.h.l) rfl rfl (st' := ⟨29, [(0, .ptr 0 0 0 0)], [.box 86 [.own 3 1 0 a0.h.l.length], .gone, .obj (arO hold_item.e hold_item.nl 95 dom M), eR89 a0.h.l]⟩) (by kernel_rfl) (by kernel_rfl) rfl ?_
  refine goK hT 21 (K115 1110 5) ⟨29, [(0, .ptr 0 0 0 0), (3, .i (IntKind.wrap .i64 ((a0.h.l.length : Int) - 1))), (14, .own 3 1 0 a0.h.l.length), (15, .i (IntKind.wrap .i64 ((a0.h.l.length : Int) - 1)))], [.box 86 [.own 3 1 0 a0.h.l.length], .gone, .obj (arO hold_item.e hold_item.nl 95 dom M), eR89 a0.h.l]⟩ ?_
  obtain ⟨h1, H⟩ := iC H
  refine ak_idx hT [0, 3, 16] (i := IntKind.wrap .i64 ((a0.h.l.length : Int) - 1)) (n := (a0.h.l.length : Int)) h1.1 h1.2 (k' := (K115 1110 6)) (st' := ⟨29, [(0, .ptr 0 0 0 0), (3, .i (IntKind.wrap .i64 ((a0.h.l.length : Int) - 1))), (16, .ptr 3 1 ((IntKind.wrap .i64 ((a0.h.l.length : Int) - 1)).toNat) 0)], [.box 86 [.own 3 1 0 a0.h.l.length], .gone, .obj (arO hold_item.e hold_item.nl 95 dom M), eR89 a0.h.l]⟩) (by kernel_rfl) ?_
  refine ak_ld hT [0, 3, 17] (i := (IntKind.wrap .i64 ((a0.h.l.length : Int) - 1)).toNat) (n := a0.h.l.length) (ltN h1.1 h1.2) (k' := (K115 1110 7)) (st' := ⟨29, [(0, .ptr 0 0 0 0), (3, .i (IntKind.wrap .i64 ((a0.h.l.length : Int) - 1))), (17, .d (pA (a0.h.l.getD ((IntKind.wrap .i64 ((a0.h.l.length : Int) - 1)).toNat) 0) 0))], [.box 86 [.own 3 1 0 a0.h.l.length], .gone, .obj (arO hold_item.e hold_item.nl 95 dom M), eR89 a0.h.l]⟩) (by kernel_rfl) ?_
  refine goK hT 10 (K115 11110 6) ⟨29, [(4, .d (pA (a0.h.l.getD ((IntKind.wrap .i64 ((a0.h.l.length : Int) - 1)).toNat) 0) 0)), (18, .ptr 0 0 0 0), (22, .own 3 1 0 a0.h.l.length), (23, .i (IntKind.wrap .i64 ((a0.h.l.length : Int) - 1)))], [.box 86 [.own 3 1 0 a0.h.l.length], .gone, .obj (arO hold_item.e hold_item.nl 95 dom M), eR89 a0.h.l]⟩ ?_
  obtain ⟨h2, H⟩ := iC H
  refine ak_sliceO (id := 3) (s := 1) (off := 0) (n := a0.h.l.length) (kk := .i64) (i := IntKind.wrap .i64 ((a0.h.l.length : Int) - 1)) (dst := some 24) (k' := (K115 11110 7)) hT [4, 18, 24] (by kernel_rfl) h2.1 h2.2 (st' := ⟨29, [(4, .d (pA (a0.h.l.getD ((IntKind.wrap .i64 ((a0.h.l.length : Int) - 1)).toNat) 0) 0)), (18, .ptr 0 0 0 0), (24, .own 3 1 0 ((IntKind.wrap .i64 ((a0.h.l.length : Int) - 1)).toNat))], [.box 86 [.own 3 1 0 a0.h.l.length], .gone, .obj (arO hold_item.e hold_item.nl 95 dom M), eR89 a0.h.l]⟩) (by kernel_rfl) ?_
  refine ak_eq (show (IntKind.wrap .i64 ((a0.h.l.length : Int) - 1)).toNat = (a0.h.l.take (IntKind.wrap .i64 ((a0.h.l.length : Int) - 1)).toNat).length from by simp only [List.length_take]; omega) (fun nn => ⟨29, [(4, .d (pA (a0.h.l.getD ((IntKind.wrap .i64 ((a0.h.l.length : Int) - 1)).toNat) 0) 0)), (18, .ptr 0 0 0 0), (24, .own 3 1 0 nn)], [.box 86 [.own 3 1 0 a0.h.l.length], .gone, .obj (arO hold_item.e hold_item.nl 95 dom M), eR89 a0.h.l]⟩) ?_
  refine ak_trunc 3 (kk := 1) (n := a0.h.l.length) (m := (a0.h.l.take (IntKind.wrap .i64 ((a0.h.l.length : Int) - 1)).toNat).length) (fz := false) (ty := 89) (g := vec eA 0 a0.h.l) (vec eA 0 (a0.h.l.take (IntKind.wrap .i64 ((a0.h.l.length : Int) - 1)).toNat)) (by kernel_rfl) (by simp only [List.length_take]; omega) vec_take (st' := ⟨29, [(4, .d (pA (a0.h.l.getD ((IntKind.wrap .i64 ((a0.h.l.length : Int) - 1)).toNat) 0) 0)), (18, .ptr 0 0 0 0), (24, .own 3 1 0 ((a0.h.l.take (IntKind.wrap .i64 ((a0.h.l.length : Int) - 1)).toNat).length))], [.box 86 [.own 3 1 0 a0.h.l.length], .gone, .obj (arO hold_item.e hold_item.nl 95 dom M), eR89 (a0.h.l.take (IntKind.wrap .i64 ((a0.h.l.length : Int) - 1)).toNat)]⟩) (by kernel_rfl) ?_
  refine goK hT 10 (K115 11111 1) ⟨29, [(2, .d (.ifc 89 (pA (a0.h.l.getD ((IntKind.wrap .i64 ((a0.h.l.length : Int) - 1)).toNat) 0) 0)))], [.box 86 [.own 3 1 0 ((a0.h.l.take (IntKind.wrap .i64 ((a0.h.l.length : Int) - 1)).toNat).length)], .gone, .obj (arO hold_item.e hold_item.nl 95 dom M), eR89 (a0.h.l.take (IntKind.wrap .i64 ((a0.h.l.length : Int) - 1)).toNat)]⟩ ?_
  obtain rfl := retC H
  exact ak_ret hf hX (av := .d (.ifc 89 (pA (a0.h.l.getD ((IntKind.wrap .i64 ((a0.h.l.length : Int) - 1)).toNat) 0) 0))) (by kernel_rfl) [0, 1, 2, 3] (sel_of_eq (by kernel_rfl)) (by decide) (by rw [h0]; rfl) (by kernel_rfl) (fun _ h => all_cons (.box (.cons (.own _ _ _ _) .nil)) (fun _ h => all_cons .gone (fun _ h => all_cons (.obj _) (fun _ h => all_cons (nr_vec nlA) (fun _ h => all_nil h) h) h) h) h) (.d (.ifc (.v _)))

theorem heap_Remove_i92.says (a0 : hold_Queue) (a1 : Int) (dom : List Nat) (M : Nat → hold_item) {r : Nat × hold_Queue × (Nat → hold_item)} (H : heap_Remove_i92 a0 a1 dom M = some r) : Says Try.prog 40 [.box 86 [.own 1 1 0 a0.h.l.length], eR89 a0.h.l, .obj (arO hold_item.e hold_item.nl 95 dom M)] [.ifc 92 (.ptr 0 0 0 0), .i a1] [.box 86 [.own 3 1 0 r.2.1.h.l.length], .gone, .obj (arO hold_item.e hold_item.nl 95 dom r.2.2), eR89 r.2.1.h.l] (.d (.ifc 89 (pA r.1 0))) := by
  refine says_of Try.func40 rfl (nt := 26) rfl (Nat.le_of_ble_eq_true rfl) fun X hP h0 hX => ?_
  have hT : TabOk X.P T := hP ▸ tok
  have hf : X.P.funcs[40]? = some Try.f40 := hP ▸ Try.func40
  refine ak_dup 1 (r := eR89 a0.h.l) rfl rfl (st' := ⟨26, [(0, .ifc 92 (.ptr 0 0 0 0)), (1, .i a1)], [.box 86 [.own 3 1 0 a0.h.l.length], .gone, .obj (arO hold_item.e hold_item.nl 95 dom M), eR89 a0.h.l]⟩) (by kernel_rfl) (by kernel_rfl) rfl ?_
  refine goK hT 7 (K40 110 1) ⟨26, [(0, .ifc 92 (.ptr 0 0 0 0)), (1, .i a1), (6, .ifc 92 (.ptr 0 0 0 0))], [.box 86 [.own 3 1 0 a0.h.l.length], .gone, .obj (arO hold_item.e hold_item.nl 95 dom M), eR89 a0.h.l]⟩ ?_
  refine ak_callIP (x := .ptr 0 0 0 0) (avs := []) (dst := some 7) (k' := (K40 110 2)) [0, 1, 7] [0, 3, 2] hP meth_92_Len enters_113 (hold_items_Len.says (⟨(⟨a0.h.l⟩ : hold_items)⟩ : hold_Queue) dom M) (by kernel_rfl) (fun _ _ h => by cases h) (fun _ _ h => by cases h) (hands_three rfl rfl rfl (by decide)) (.cons (.same (.ptr 0 0 0 0)) .nil) (st' := ⟨26, [(0, .ifc 92 (.ptr 0 0 0 0)), (1, .i a1), (7, .i ((hold_items_Len (⟨(⟨a0.h.l⟩ : hold_items)⟩ : hold_Queue) dom M).1))], [.box 86 [.own 4 1 0 (((((hold_items_Len (⟨(⟨a0.h.l⟩ : hold_items)⟩ : hold_Queue) dom M).2).h).l).length)], .gone, .obj (arO hold_item.e hold_item.nl 95 dom M), .gone, eR89 ((((hold_items_Len (⟨(⟨a0.h.l⟩ : hold_items)⟩ : hold_Queue) dom M).2).h).l)]⟩) (by kernel_rfl) ?_
  obtain ⟨v1, h1, H⟩ := idC H
  have Jj1 : ∀ (y1_r2 : Nat → hold_item) (y1_r3 : List Nat), (heap_Remove_i92.j1 dom y1_r2 y1_r3) = some r → AK X 40 ((K40 111 1)) (Back X [.box 86 [.own 3 1 0 r.2.1.h.l.length], .gone, .obj (arO hold_item.e hold_item.nl 95 dom r.2.2), eR89 r.2.1.h.l] (.d (.ifc 89 (pA r.1 0)))) ⟨26, [(0, .ifc 92 (.ptr 0 0 0 0))], [.box 86 [.own 3 1 0 y1_r3.length], .gone, .obj (arO hold_item.e hold_item.nl 95 dom y1_r2), eR89 y1_r3]⟩ := by
    intro y1_r2 y1_r3 H
    refine goK hT 3 (K40 11110 1) ⟨26, [(24, .ifc 92 (.ptr 0 0 0 0))], [.box 86 [.own 3 1 0 y1_r3.length], .gone, .obj (arO hold_item.e hold_item.nl 95 dom y1_r2), eR89 y1_r3]⟩ ?_
    obtain ⟨v5, h7, H⟩ := ibC H
    refine ak_callIP (x := .ptr 0 0 0 0) (avs := []) (dst := some 25) (k' := (K40 11110 2)) [25] [0, 3, 2] hP meth_92_Pop enters_115 (hold_items_Pop.says (⟨(⟨y1_r3⟩ : hold_items)⟩ : hold_Queue) dom y1_r2 h7) (by kernel_rfl) (fun _ _ h => by cases h) (fun _ _ h => by cases h) (hands_three rfl rfl rfl (by decide)) (.cons (.same (.ptr 0 0 0 0)) .nil) (st' := ⟨26, [(25, .d (.ifc 89 (pA v5.1 0)))], [.box 86 [.own 4 1 0 v5.2.h.l.length], .gone, .obj (arO hold_item.e hold_item.nl 95 dom y1_r2), .gone, eR89 v5.2.h.l]⟩) (by kernel_rfl) ?_
    refine goK hT 2 (K40 1111 1) ⟨26, [(4, .d (.ifc 89 (pA v5.1 0)))], [.box 86 [.own 4 1 0 v5.2.h.l.length], .gone, .obj (arO hold_item.e hold_item.nl 95 dom y1_r2), .gone, eR89 v5.2.h.l]⟩ ?_
    obtain rfl := retC H
    exact ak_ret hf hX (av := .d (.ifc 89 (pA v5.1 0))) (by kernel_rfl) [0, 1, 2, 4] (sel_of_eq (by kernel_rfl)) (by decide) (by rw [h0]; rfl) (by kernel_rfl) (fun _ h => all_cons (.box (.cons (.own _ _ _ _) .nil)) (fun _ h => all_cons .gone (fun _ h => all_cons (.obj _) (fun _ h => all_cons (nr_vec nlA) (fun _ h => all_nil h) h) h) h) h) (.d (.ifc (.v _)))
  rw [← h1]
  refine goK hT 10 (K40 1110 1) ⟨26, [(0, .ifc 92 (.ptr 0 0 0 0)), (1, .i a1), (5, .i (IntKind.wrap .i64 (v1.1 - 1))), (11, .b ((IntKind.wrap .i64 (v1.1 - 1)) != a1))], [.box 86 [.own 4 1 0 ((((v1.2).h).l).length)], .gone, .obj (arO hold_item.e hold_item.nl 95 dom M), .gone, eR89 (((v1.2).h).l)]⟩ ?_
  by_cases c2 : (IntKind.wrap .i64 (v1.1 - 1)) = a1
  · replace H := iT c2 H
    rw [neF c2]
    refine goK hT 2 (K40 111 1) ⟨26, [(0, .ifc 92 (.ptr 0 0 0 0))], [.box 86 [.own 4 1 0 ((((v1.2).h).l).length)], .gone, .obj (arO hold_item.e hold_item.nl 95 dom M), .gone, eR89 (((v1.2).h).l)]⟩ ?_
    refine cutK [0, 1, 2, 4] ⟨26, [(0, .ifc 92 (.ptr 0 0 0 0))], [.box 86 [.own 3 1 0 (((v1.2).h).l).length], .gone, .obj (arO hold_item.e hold_item.nl 95 dom M), eR89 (((v1.2).h).l)]⟩ h0 ?_
    exact Jj1 M (((v1.2).h).l) H
  · replace H := iF c2 H
    rw [neT c2]
    refine goK hT 6 (K40 1110100 3) ⟨26, [(0, .ifc 92 (.ptr 0 0 0 0)), (1, .i a1), (5, .i (IntKind.wrap .i64 (v1.1 - 1))), (12, .ifc 92 (.ptr 0 0 0 0)), (13, .i a1), (14, .i (IntKind.wrap .i64 (v1.1 - 1)))], [.box 86 [.own 4 1 0 ((((v1.2).h).l).length)], .gone, .obj (arO hold_item.e hold_item.nl 95 dom M), .gone, eR89 (((v1.2).h).l)]⟩ ?_
    obtain ⟨v2, h3, H⟩ := ibC H
    refine ak_callIP (x := .ptr 0 0 0 0) (avs := [.i a1, .i (IntKind.wrap .i64 (v1.1 - 1))]) (dst := some 15) (k' := (K40 1110100 4)) [0, 1, 5] [0, 4, 2] hP meth_92_Swap enters_117 (hold_items_Swap.says (⟨(⟨((v1.2).h).l⟩ : hold_items)⟩ : hold_Queue) a1 (IntKind.wrap .i64 (v1.1 - 1)) dom M h3) (by kernel_rfl) (fun _ _ h => by cases h) (fun _ _ h => by cases h) (hands_three rfl rfl rfl (by decide)) (.cons (.same (.ptr 0 0 0 0)) (.cons (pass_d _) (.cons (pass_d _) .nil))) (st' := ⟨26, [(0, .ifc 92 (.ptr 0 0 0 0)), (1, .i a1), (5, .i (IntKind.wrap .i64 (v1.1 - 1)))], [.box 86 [.own 5 1 0 v2.1.h.l.length], .gone, .obj (arO hold_item.e hold_item.nl 95 dom v2.2), .gone, .gone, eR89 v2.1.h.l]⟩) (by kernel_rfl) ?_
    refine goK hT 6 (K40 11101010 3) ⟨26, [(0, .ifc 92 (.ptr 0 0 0 0)), (1, .i a1), (16, .ifc 92 (.ptr 0 0 0 0)), (17, .i a1), (18, .i (IntKind.wrap .i64 (v1.1 - 1)))], [.box 86 [.own 5 1 0 v2.1.h.l.length], .gone, .obj (arO hold_item.e hold_item.nl 95 dom v2.2), .gone, .gone, eR89 v2.1.h.l]⟩ ?_
    obtain ⟨v3, h4, H⟩ := ibC H
    refine ak_callP (avs := [.ifc 92 (.ptr 0 0 0 0), .i a1, .i (IntKind.wrap .i64 (v1.1 - 1))]) (dst := some 19) (k' := (K40 11101010 4)) [0, 1, 19] [0, 5, 2] hP enters_55 (heap_down_i92.says (⟨(⟨v2.1.h.l⟩ : hold_items)⟩ : hold_Queue) a1 (IntKind.wrap .i64 (v1.1 - 1)) dom v2.2 h4) (by kernel_rfl) (hands_three rfl rfl rfl (by decide)) (.cons (.same (.ifc 92 (.ptr 0 0 0 0))) (.cons (pass_d _) (.cons (pass_d _) .nil))) (st' := ⟨26, [(0, .ifc 92 (.ptr 0 0 0 0)), (1, .i a1), (19, .b v3.1)], [.box 86 [.own 6 1 0 v3.2.1.h.l.length], .gone, .obj (arO hold_item.e hold_item.nl 95 dom v3.2.2), .gone, .gone, .gone, eR89 v3.2.1.h.l]⟩) (by kernel_rfl) ?_
    refine goK hT 2 (K40 1110101 1) ⟨26, [(0, .ifc 92 (.ptr 0 0 0 0)), (1, .i a1), (20, .b (!v3.1))], [.box 86 [.own 6 1 0 v3.2.1.h.l.length], .gone, .obj (arO hold_item.e hold_item.nl 95 dom v3.2.2), .gone, .gone, .gone, eR89 v3.2.1.h.l]⟩ ?_
    by_cases c5 : v3.1 = true
    · replace H := iT c5 H
      rw [c5]
      refine goK hT 2 (K40 111 1) ⟨26, [(0, .ifc 92 (.ptr 0 0 0 0))], [.box 86 [.own 6 1 0 v3.2.1.h.l.length], .gone, .obj (arO hold_item.e hold_item.nl 95 dom v3.2.2), .gone, .gone, .gone, eR89 v3.2.1.h.l]⟩ ?_
      refine cutK [0, 1, 2, 6] ⟨26, [(0, .ifc 92 (.ptr 0 0 0 0))], [.box 86 [.own 3 1 0 v3.2.1.h.l.length], .gone, .obj (arO hold_item.e hold_item.nl 95 dom v3.2.2), eR89 v3.2.1.h.l]⟩ h0 ?_
      exact Jj1 v3.2.2 v3.2.1.h.l H
    · replace H := iF c5 H
      rw [boF c5]
      refine goK hT 4 (K40 111010110 2) ⟨26, [(0, .ifc 92 (.ptr 0 0 0 0)), (21, .ifc 92 (.ptr 0 0 0 0)), (22, .i a1)], [.box 86 [.own 6 1 0 v3.2.1.h.l.length], .gone, .obj (arO hold_item.e hold_item.nl 95 dom v3.2.2), .gone, .gone, .gone, eR89 v3.2.1.h.l]⟩ ?_
      obtain ⟨v4, h6, H⟩ := ibC H
      refine ak_callP (avs := [.ifc 92 (.ptr 0 0 0 0), .i a1]) (dst := some 23) (k' := (K40 111010110 3)) [0] [0, 6, 2] hP enters_53 (heap_up_i92.says (⟨(⟨v3.2.1.h.l⟩ : hold_items)⟩ : hold_Queue) a1 dom v3.2.2 h6) (by kernel_rfl) (hands_three rfl rfl rfl (by decide)) (.cons (.same (.ifc 92 (.ptr 0 0 0 0))) (.cons (pass_d _) .nil)) (st' := ⟨26, [(0, .ifc 92 (.ptr 0 0 0 0))], [.box 86 [.own 7 1 0 v4.1.h.l.length], .gone, .obj (arO hold_item.e hold_item.nl 95 dom v4.2), .gone, .gone, .gone, .gone, eR89 v4.1.h.l]⟩) (by kernel_rfl) ?_
      refine goK hT 1 (K40 111 1) ⟨26, [(0, .ifc 92 (.ptr 0 0 0 0))], [.box 86 [.own 7 1 0 v4.1.h.l.length], .gone, .obj (arO hold_item.e hold_item.nl 95 dom v4.2), .gone, .gone, .gone, .gone, eR89 v4.1.h.l]⟩ ?_
      refine cutK [0, 1, 2, 7] ⟨26, [(0, .ifc 92 (.ptr 0 0 0 0))], [.box 86 [.own 3 1 0 v4.1.h.l.length], .gone, .obj (arO hold_item.e hold_item.nl 95 dom v4.2), eR89 v4.1.h.l]⟩ h0 ?_
      exact Jj1 v4.2 v4.1.h.l H

theorem hold_Queue_Drop.says (a0 : hold_Queue) (a1 : Int) (a2 : Int) (dom : List Nat) (M : Nat → hold_item) {r : Int × hold_Queue × (Nat → hold_item)} (H : hold_Queue_Drop a0 a1 a2 dom M = some r) : Says Try.prog 19 [.box 86 [.own 1 1 0 a0.h.l.length], eR89 a0.h.l, .obj (arO hold_item.e hold_item.nl 95 dom M)] [.ptr 0 0 0 0, .i a1, .i a2] [.box 86 [.own 3 1 0 r.2.1.h.l.length], .gone, .obj (arO hold_item.e hold_item.nl 95 dom r.2.2), eR89 r.2.1.h.l] (.i r.1) := by
  refine says_of Try.func19 rfl (nt := 25) rfl (Nat.le_of_ble_eq_true rfl) fun X hP h0 hX => ?_
  have hT : TabOk X.P T := hP ▸ tok
  have hf : X.P.funcs[19]? = some Try.f19 := hP ▸ Try.func19
  refine ak_dup 1 (r := eR89 a0.h.l) rfl rfl (st' := ⟨25, [(0, .ptr 0 0 0 0), (1, .i a1), (2, .i a2)], [.box 86 [.own 3 1 0 a0.h.l.length], .gone, .obj (arO hold_item.e hold_item.nl 95 dom M), eR89 a0.h.l]⟩) (by kernel_rfl) (by kernel_rfl) rfl ?_
  refine goK hT 17 (K19 1110 3) ⟨25, [(0, .ptr 0 0 0 0), (10, .ptr 0 0 0 0), (11, .i a1), (12, .i a2)], [.box 86 [.own 3 1 0 a0.h.l.length], .gone, .obj (arO hold_item.e hold_item.nl 95 dom M), eR89 a0.h.l]⟩ ?_
  obtain ⟨v1, h1, H⟩ := ibC H
  cases q2 : v1.1 with
  | none =>
      rw [q2] at H
      replace H := ioptN H
      have Sq2 := hold_Queue_find.says (⟨(⟨a0.h.l⟩ : hold_items)⟩ : hold_Queue) a1 a2 dom M h1
      rw [q2] at Sq2
      refine ak_callP (avs := [.ptr 0 0 0 0, .i a1, .i a2]) (dst := some 13) (k' := (K19 1110 4)) [0, 13] [0, 3, 2] hP enters_33 (Sq2) (by kernel_rfl) (hands_three rfl rfl rfl (by decide)) (.cons (.same (.ptr 0 0 0 0)) (.cons (pass_d _) (.cons (pass_d _) .nil))) (st' := ⟨25, [(0, .ptr 0 0 0 0), (13, .d .np)], [.box 86 [.own 4 1 0 v1.2.h.l.length], .gone, .obj (arO hold_item.e hold_item.nl 95 dom M), .gone, eR89 v1.2.h.l]⟩) (by kernel_rfl) ?_
      refine goK hT 13 (K19 1111010 1) ⟨25, [(6, .i 4)], [.box 86 [.own 4 1 0 v1.2.h.l.length], .gone, .obj (arO hold_item.e hold_item.nl 95 dom M), .gone, eR89 v1.2.h.l]⟩ ?_
      obtain rfl := retC H
      exact ak_ret hf hX (av := .i 4) (by kernel_rfl) [0, 1, 2, 4] (sel_of_eq (by kernel_rfl)) (by decide) (by rw [h0]; rfl) (by kernel_rfl) (fun _ h => all_cons (.box (.cons (.own _ _ _ _) .nil)) (fun _ h => all_cons .gone (fun _ h => all_cons (.obj _) (fun _ h => all_cons (nr_vec nlA) (fun _ h => all_nil h) h) h) h) h) (.d (.v _))
  | some v2 =>
      rw [q2] at H
      replace H := ioptS H
      have Sq2 := hold_Queue_find.says (⟨(⟨a0.h.l⟩ : hold_items)⟩ : hold_Queue) a1 a2 dom M h1
      rw [q2] at Sq2
      refine ak_callP (avs := [.ptr 0 0 0 0, .i a1, .i a2]) (dst := some 13) (k' := (K19 1110 4)) [0, 13] [0, 3, 2] hP enters_33 (Sq2) (by kernel_rfl) (hands_three rfl rfl rfl (by decide)) (.cons (.same (.ptr 0 0 0 0)) (.cons (pass_d _) (.cons (pass_d _) .nil))) (st' := ⟨25, [(0, .ptr 0 0 0 0), (13, .d (pA v2 0))], [.box 86 [.own 4 1 0 v1.2.h.l.length], .gone, .obj (arO hold_item.e hold_item.nl 95 dom M), .gone, eR89 v1.2.h.l]⟩) (by kernel_rfl) ?_
      refine goK hT 11 (K19 11111 0) ⟨25, [(0, .ptr 0 0 0 0), (7, .d (pA v2 0))], [.box 86 [.own 4 1 0 v1.2.h.l.length], .gone, .obj (arO hold_item.e hold_item.nl 95 dom M), .gone, eR89 v1.2.h.l]⟩ ?_
      obtain ⟨h3, H⟩ := iC H
      refine drawK (hP ▸ mixed) 8 [0, 7] [some (.ptr 0 0 0 0), some (.ptr 0 0 0 0), some (.ptr 0 0 0 0), some (.ifc 92 (.ptr 0 0 0 0)), some (.d (pA v2 0)), some (.d (pA v2 0)), some (.d (pA v2 9)), some (.i ((M v2).at_))] (opS (opG (opG (opG (opG (opG (opG (opG op0 hT) hT) hT) hT) hT) hT) hT) (fun R rest h => ak_lda0 hT (e := hold_item.e) (he := hold_item.nl) (ty := 95) (dom := dom) (m := M) 2 (a := v2) (off := 9) (s := 1) (agg := false) (dst := some 23) [.i ((M v2).at_)] (by kernel_rfl) (by kernel_rfl) h3 rfl rfl (fun _ => rfl) (by kernel_rfl) h)) ?_
      refine goK hT 0 (K19 111110 8) ⟨25, [(19, .ifc 92 (.ptr 0 0 0 0)), (23, .i ((M v2).at_))], [.box 86 [.own 4 1 0 v1.2.h.l.length], .gone, .obj (arO hold_item.e hold_item.nl 95 dom M), .gone, eR89 v1.2.h.l]⟩ ?_
      obtain ⟨v3, h4, H⟩ := ibC H
      refine ak_callP (avs := [.ifc 92 (.ptr 0 0 0 0), .i ((M v2).at_)]) (dst := some 24) (k' := (K19 111110 9)) [] [0, 4, 2] hP enters_40 (heap_Remove_i92.says (⟨(⟨v1.2.h.l⟩ : hold_items)⟩ : hold_Queue) ((M v2).at_) dom M h4) (by kernel_rfl) (hands_three rfl rfl rfl (by decide)) (.cons (.same (.ifc 92 (.ptr 0 0 0 0))) (.cons (pass_d _) .nil)) (st' := ⟨25, [], [.box 86 [.own 5 1 0 v3.2.1.h.l.length], .gone, .obj (arO hold_item.e hold_item.nl 95 dom v3.2.2), .gone, .gone, eR89 v3.2.1.h.l]⟩) (by kernel_rfl) ?_
      refine goK hT 5 (K19 111111 1) ⟨25, [(6, .i 0)], [.box 86 [.own 5 1 0 v3.2.1.h.l.length], .gone, .obj (arO hold_item.e hold_item.nl 95 dom v3.2.2), .gone, .gone, eR89 v3.2.1.h.l]⟩ ?_
      obtain rfl := retC H
      exact ak_ret hf hX (av := .i 0) (by kernel_rfl) [0, 1, 2, 5] (sel_of_eq (by kernel_rfl)) (by decide) (by rw [h0]; rfl) (by kernel_rfl) (fun _ h => all_cons (.box (.cons (.own _ _ _ _) .nil)) (fun _ h => all_cons .gone (fun _ h => all_cons (.obj _) (fun _ h => all_cons (nr_vec nlA) (fun _ h => all_nil h) h) h) h) h) (.d (.v _))

theorem hold_Queue_Len.says (a0 : hold_Queue) (dom : List Nat) (M : Nat → hold_item) : Says Try.prog 14 [.box 86 [.own 1 1 0 a0.h.l.length], eR89 a0.h.l, .obj (arO hold_item.e hold_item.nl 95 dom M)] [.ptr 0 0 0 0] [.box 86 [.own 3 1 0 (((((hold_Queue_Len a0 dom M).2).h).l).length)], .gone, .obj (arO hold_item.e hold_item.nl 95 dom M), eR89 ((((hold_Queue_Len a0 dom M).2).h).l)] (.i ((hold_Queue_Len a0 dom M).1)) := by
  obtain ⟨r, H⟩ : ∃ r, hold_Queue_Len a0 dom M = r := ⟨_, rfl⟩
  rw [H]
  refine says_of Try.func14 rfl (nt := 11) rfl (Nat.le_of_ble_eq_true rfl) fun X hP h0 hX => ?_
  have hT : TabOk X.P T := hP ▸ tok
  have hf : X.P.funcs[14]? = some Try.f14 := hP ▸ Try.func14
  refine ak_dup 1 (r := eR89 a0.h.l) rfl rfl (st' := ⟨11, [(0, .ptr 0 0 0 0)], [.box 86 [.own 3 1 0 a0.h.l.length], .gone, .obj (arO hold_item.e hold_item.nl 95 dom M), eR89 a0.h.l]⟩) (by kernel_rfl) (by kernel_rfl) rfl ?_
  refine goK hT 22 (K14 111 1) ⟨11, [(2, .i (a0.h.l.length : Int))], [.box 86 [.own 3 1 0 a0.h.l.length], .gone, .obj (arO hold_item.e hold_item.nl 95 dom M), eR89 a0.h.l]⟩ ?_
  obtain rfl := H
  exact ak_ret hf hX (av := .i (a0.h.l.length : Int)) (by kernel_rfl) [0, 1, 2, 3] (sel_of_eq (by kernel_rfl)) (by decide) (by rw [h0]; rfl) (by kernel_rfl) (fun _ h => all_cons (.box (.cons (.own _ _ _ _) .nil)) (fun _ h => all_cons .gone (fun _ h => all_cons (.obj _) (fun _ h => all_cons (nr_vec nlA) (fun _ h => all_nil h) h) h) h) h) (.d (.v _))

theorem heap_Pop_i92.says (a0 : hold_Queue) (dom : List Nat) (M : Nat → hold_item) {r : Nat × hold_Queue × (Nat → hold_item)} (H : heap_Pop_i92 a0 dom M = some r) : Says Try.prog 37 [.box 86 [.own 1 1 0 a0.h.l.length], eR89 a0.h.l, .obj (arO hold_item.e hold_item.nl 95 dom M)] [.ifc 92 (.ptr 0 0 0 0)] [.box 86 [.own 3 1 0 r.2.1.h.l.length], .gone, .obj (arO hold_item.e hold_item.nl 95 dom r.2.2), eR89 r.2.1.h.l] (.d (.ifc 89 (pA r.1 0))) := by
  refine says_of Try.func37 rfl (nt := 15) rfl (Nat.le_of_ble_eq_true rfl) fun X hP h0 hX => ?_
  have hT : TabOk X.P T := hP ▸ tok
  have hf : X.P.funcs[37]? = some Try.f37 := hP ▸ Try.func37
  refine ak_dup 1 (r := eR89 a0.h.l) rfl rfl (st' := ⟨15, [(0, .ifc 92 (.ptr 0 0 0 0))], [.box 86 [.own 3 1 0 a0.h.l.length], .gone, .obj (arO hold_item.e hold_item.nl 95 dom M), eR89 a0.h.l]⟩) (by kernel_rfl) (by kernel_rfl) rfl ?_
  refine goK hT 7 (K37 110 1) ⟨15, [(0, .ifc 92 (.ptr 0 0 0 0)), (4, .ifc 92 (.ptr 0 0 0 0))], [.box 86 [.own 3 1 0 a0.h.l.length], .gone, .obj (arO hold_item.e hold_item.nl 95 dom M), eR89 a0.h.l]⟩ ?_
  refine ak_callIP (x := .ptr 0 0 0 0) (avs := []) (dst := some 5) (k' := (K37 110 2)) [0, 5] [0, 3, 2] hP meth_92_Len enters_113 (hold_items_Len.says (⟨(⟨a0.h.l⟩ : hold_items)⟩ : hold_Queue) dom M) (by kernel_rfl) (fun _ _ h => by cases h) (fun _ _ h => by cases h) (hands_three rfl rfl rfl (by decide)) (.cons (.same (.ptr 0 0 0 0)) .nil) (st' := ⟨15, [(0, .ifc 92 (.ptr 0 0 0 0)), (5, .i ((hold_items_Len (⟨(⟨a0.h.l⟩ : hold_items)⟩ : hold_Queue) dom M).1))], [.box 86 [.own 4 1 0 (((((hold_items_Len (⟨(⟨a0.h.l⟩ : hold_items)⟩ : hold_Queue) dom M).2).h).l).length)], .gone, .obj (arO hold_item.e hold_item.nl 95 dom M), .gone, eR89 ((((hold_items_Len (⟨(⟨a0.h.l⟩ : hold_items)⟩ : hold_Queue) dom M).2).h).l)]⟩) (by kernel_rfl) ?_
  obtain ⟨v1, h1, H⟩ := idC H
  rw [← h1]
  refine goK hT 7 (K37 1110 2) ⟨15, [(0, .ifc 92 (.ptr 0 0 0 0)), (3, .i (IntKind.wrap .i64 (v1.1 - 1))), (7, .ifc 92 (.ptr 0 0 0 0)), (8, .i (IntKind.wrap .i64 (v1.1 - 1)))], [.box 86 [.own 4 1 0 ((((v1.2).h).l).length)], .gone, .obj (arO hold_item.e hold_item.nl 95 dom M), .gone, eR89 (((v1.2).h).l)]⟩ ?_
  obtain ⟨v2, h2, H⟩ := ibC H
  refine ak_callIP (x := .ptr 0 0 0 0) (avs := [.i 0, .i (IntKind.wrap .i64 (v1.1 - 1))]) (dst := some 9) (k' := (K37 1110 3)) [0, 3] [0, 4, 2] hP meth_92_Swap enters_117 (hold_items_Swap.says (⟨(⟨((v1.2).h).l⟩ : hold_items)⟩ : hold_Queue) 0 (IntKind.wrap .i64 (v1.1 - 1)) dom M h2) (by kernel_rfl) (fun _ _ h => by cases h) (fun _ _ h => by cases h) (hands_three rfl rfl rfl (by decide)) (.cons (.same (.ptr 0 0 0 0)) (.cons (pass_d _) (.cons (pass_d _) .nil))) (st' := ⟨15, [(0, .ifc 92 (.ptr 0 0 0 0)), (3, .i (IntKind.wrap .i64 (v1.1 - 1)))], [.box 86 [.own 5 1 0 v2.1.h.l.length], .gone, .obj (arO hold_item.e hold_item.nl 95 dom v2.2), .gone, .gone, eR89 v2.1.h.l]⟩) (by kernel_rfl) ?_
  refine goK hT 5 (K37 11110 2) ⟨15, [(0, .ifc 92 (.ptr 0 0 0 0)), (10, .ifc 92 (.ptr 0 0 0 0)), (11, .i (IntKind.wrap .i64 (v1.1 - 1)))], [.box 86 [.own 5 1 0 v2.1.h.l.length], .gone, .obj (arO hold_item.e hold_item.nl 95 dom v2.2), .gone, .gone, eR89 v2.1.h.l]⟩ ?_
  obtain ⟨v3, h3, H⟩ := ibC H
  refine ak_callP (avs := [.ifc 92 (.ptr 0 0 0 0), .i 0, .i (IntKind.wrap .i64 (v1.1 - 1))]) (dst := some 12) (k' := (K37 11110 3)) [0] [0, 5, 2] hP enters_55 (heap_down_i92.says (⟨(⟨v2.1.h.l⟩ : hold_items)⟩ : hold_Queue) 0 (IntKind.wrap .i64 (v1.1 - 1)) dom v2.2 h3) (by kernel_rfl) (hands_three rfl rfl rfl (by decide)) (.cons (.same (.ifc 92 (.ptr 0 0 0 0))) (.cons (pass_d _) (.cons (pass_d _) .nil))) (st' := ⟨15, [(0, .ifc 92 (.ptr 0 0 0 0))], [.box 86 [.own 6 1 0 v3.2.1.h.l.length], .gone, .obj (arO hold_item.e hold_item.nl 95 dom v3.2.2), .gone, .gone, .gone, eR89 v3.2.1.h.l]⟩) (by kernel_rfl) ?_
  refine goK hT 4 (K37 111110 1) ⟨15, [(13, .ifc 92 (.ptr 0 0 0 0))], [.box 86 [.own 6 1 0 v3.2.1.h.l.length], .gone, .obj (arO hold_item.e hold_item.nl 95 dom v3.2.2), .gone, .gone, .gone, eR89 v3.2.1.h.l]⟩ ?_
  obtain ⟨v4, h4, H⟩ := ibC H
  refine ak_callIP (x := .ptr 0 0 0 0) (avs := []) (dst := some 14) (k' := (K37 111110 2)) [14] [0, 6, 2] hP meth_92_Pop enters_115 (hold_items_Pop.says (⟨(⟨v3.2.1.h.l⟩ : hold_items)⟩ : hold_Queue) dom v3.2.2 h4) (by kernel_rfl) (fun _ _ h => by cases h) (fun _ _ h => by cases h) (hands_three rfl rfl rfl (by decide)) (.cons (.same (.ptr 0 0 0 0)) .nil) (st' := ⟨15, [(14, .d (.ifc 89 (pA v4.1 0)))], [.box 86 [.own 7 1 0 v4.2.h.l.length], .gone, .obj (arO hold_item.e hold_item.nl 95 dom v3.2.2), .gone, .gone, .gone, .gone, eR89 v4.2.h.l]⟩) (by kernel_rfl) ?_
  refine goK hT 2 (K37 11111 1) ⟨15, [(2, .d (.ifc 89 (pA v4.1 0)))], [.box 86 [.own 7 1 0 v4.2.h.l.length], .gone, .obj (arO hold_item.e hold_item.nl 95 dom v3.2.2), .gone, .gone, .gone, .gone, eR89 v4.2.h.l]⟩ ?_
  obtain rfl := retC H
  exact ak_ret hf hX (av := .d (.ifc 89 (pA v4.1 0))) (by kernel_rfl) [0, 1, 2, 7] (sel_of_eq (by kernel_rfl)) (by decide) (by rw [h0]; rfl) (by kernel_rfl) (fun _ h => all_cons (.box (.cons (.own _ _ _ _) .nil)) (fun _ h => all_cons .gone (fun _ h => all_cons (.obj _) (fun _ h => all_cons (nr_vec nlA) (fun _ h => all_nil h) h) h) h) h) (.d (.ifc (.v _)))

theorem hold_Queue_Pop.says (a0 : hold_Queue) (dom : List Nat) (M : Nat → hold_item) {r : api_Held × Bool × hold_Queue × (Nat → hold_item)} (H : hold_Queue_Pop a0 dom M = some r) : Says Try.prog 15 [.box 86 [.own 1 1 0 a0.h.l.length], eR89 a0.h.l, .obj (arO hold_item.e hold_item.nl 95 dom M)] [.ptr 0 0 0 0] [.box 86 [.own 3 1 0 r.2.2.1.h.l.length], .gone, .obj (arO hold_item.e hold_item.nl 95 dom r.2.2.2), eR89 r.2.2.1.h.l] (.tup [.d (eG32 r.1), .b r.2.1]) := by
  refine says_of Try.func15 rfl (nt := 40) rfl (Nat.le_of_ble_eq_true rfl) fun X hP h0 hX => ?_
  have hT : TabOk X.P T := hP ▸ tok
  have hf : X.P.funcs[15]? = some Try.f15 := hP ▸ Try.func15
  refine ak_dup 1 (r := eR89 a0.h.l) rfl rfl (st' := ⟨40, [(0, .ptr 0 0 0 0)], [.box 86 [.own 3 1 0 a0.h.l.length], .gone, .obj (arO hold_item.e hold_item.nl 95 dom M), eR89 a0.h.l]⟩) (by kernel_rfl) (by kernel_rfl) rfl ?_
  refine goK hT 9 (K15 1100 1) ⟨40, [(0, .ptr 0 0 0 0), (2, .ptr 4 0 0 0), (6, .ptr 0 0 0 0)], [.box 86 [.own 3 1 0 a0.h.l.length], .gone, .obj (arO hold_item.e hold_item.nl 95 dom M), eR89 a0.h.l, .box 32 [.i 0, .i 0, .i 0, .ns, .i 0, .i 0, .i 0, .i 0, .b false]]⟩ ?_
  refine ak_callP (avs := [.ptr 0 0 0 0]) (dst := some 7) (k' := (K15 1100 2)) [0, 2, 7] [0, 3, 2] hP enters_14 (hold_Queue_Len.says (⟨(⟨a0.h.l⟩ : hold_items)⟩ : hold_Queue) dom M) (by kernel_rfl) (hands_three rfl rfl rfl (by decide)) (.cons (.same (.ptr 0 0 0 0)) .nil) (st' := ⟨40, [(0, .ptr 0 0 0 0), (2, .ptr 4 0 0 0), (7, .i ((hold_Queue_Len (⟨(⟨a0.h.l⟩ : hold_items)⟩ : hold_Queue) dom M).1))], [.box 86 [.own 5 1 0 (((((hold_Queue_Len (⟨(⟨a0.h.l⟩ : hold_items)⟩ : hold_Queue) dom M).2).h).l).length)], .gone, .obj (arO hold_item.e hold_item.nl 95 dom M), .gone, .box 32 [.i 0, .i 0, .i 0, .ns, .i 0, .i 0, .i 0, .i 0, .b false], eR89 ((((hold_Queue_Len (⟨(⟨a0.h.l⟩ : hold_items)⟩ : hold_Queue) dom M).2).h).l)]⟩) (by kernel_rfl) ?_
  obtain ⟨v1, h1, H⟩ := idC H
  have Jj1 : ∀ (y1_22 : Bool), (hold_Queue_Pop.j1 dom M v1 y1_22) = some r → AK X 15 ((K15 110 1)) (Back X [.box 86 [.own 3 1 0 r.2.2.1.h.l.length], .gone, .obj (arO hold_item.e hold_item.nl 95 dom r.2.2.2), eR89 r.2.2.1.h.l] (.tup [.d (eG32 r.1), .b r.2.1])) ⟨40, [(0, .ptr 0 0 0 0), (2, .ptr 3 0 0 0), (22, .b y1_22)], [.box 86 [.own 4 1 0 ((((v1.2).h).l).length)], .gone, .obj (arO hold_item.e hold_item.nl 95 dom M), .box 32 [.i 0, .i 0, .i 0, .ns, .i 0, .i 0, .i 0, .i 0, .b false], eR89 (((v1.2).h).l)]⟩ := by
    intro y1_22 H
    by_cases c5 : y1_22 = true
    · replace H := iT c5 H
      rw [c5]
      refine goK hT 4 (K15 110100 1) ⟨40, [(2, .ptr 3 0 0 0), (23, .d (.agg [.i 0, .i 0, .i 0, .ns, .i 0, .i 0, .i 0, .i 0, .b false]))], [.box 86 [.own 4 1 0 ((((v1.2).h).l).length)], .gone, .obj (arO hold_item.e hold_item.nl 95 dom M), .box 32 [.i 0, .i 0, .i 0, .ns, .i 0, .i 0, .i 0, .i 0, .b false], eR89 (((v1.2).h).l)]⟩ ?_
      refine ak_sealS (av := .d (.agg [.i 0, .i 0, .i 0, .ns, .i 0, .i 0, .i 0, .i 0, .b false])) (y := .agg [.i 0, .i 0, .i 0, eL70 true ([] : List api_Pair), .i 0, .i 0, .i 0, .i 0, .b false]) [2, 23] 23 (st' := ⟨40, [(2, .ptr 3 0 0 0), (23, .d (.agg [.i 0, .i 0, .i 0, eL70 true ([] : List api_Pair), .i 0, .i 0, .i 0, .i 0, .b false]))], [.box 86 [.own 4 1 0 ((((v1.2).h).l).length)], .gone, .obj (arO hold_item.e hold_item.nl 95 dom M), .box 32 [.i 0, .i 0, .i 0, .ns, .i 0, .i 0, .i 0, .i 0, .b false], eR89 (((v1.2).h).l)]⟩) (by kernel_rfl) (.aggd (.cons (.d _) (.cons (.d _) (.cons (.d _) (.cons (.nil _) (.cons (.d _) (.cons (.d _) (.cons (.d _) (.cons (.d _) (.cons (.d _) .nil)))))))))) (by kernel_rfl) ?_
      refine goK hT 3 (K15 11010 1) ⟨40, [(2, .ptr 3 0 0 0), (3, .b false)], [.box 86 [.own 4 1 0 ((((v1.2).h).l).length)], .gone, .obj (arO hold_item.e hold_item.nl 95 dom M), .box 32 [.i 0, .i 0, .i 0, .d (eL70 true ([] : List api_Pair)), .i 0, .i 0, .i 0, .i 0, .b false], eR89 (((v1.2).h).l)]⟩ ?_
      obtain rfl := retC H
      exact ak_retM hT hf hX (av := .tup [.d (.agg [.i 0, .i 0, .i 0, eL70 true ([] : List api_Pair), .i 0, .i 0, .i 0, .i 0, .b false]), .b false]) (by kernel_rfl) [0, 1, 2, 4] (sel_of_eq (by kernel_rfl)) (by decide) (by rw [h0]; rfl) (by kernel_rfl) (fun _ h => all_cons (.box (.cons (.own _ _ _ _) .nil)) (fun _ h => all_cons .gone (fun _ h => all_cons (.obj _) (fun _ h => all_cons (nr_vec nlA) (fun _ h => all_nil h) h) h) h) h) (.tup (.cons (.d (.agg (api_Held.nl _))) (.cons (.d (.v _)) .nil)))
    · replace H := iF c5 H
      rw [boF c5]
      refine goK hT 2 (K15 11 1) ⟨40, [(0, .ptr 0 0 0 0), (2, .ptr 3 0 0 0)], [.box 86 [.own 4 1 0 ((((v1.2).h).l).length)], .gone, .obj (arO hold_item.e hold_item.nl 95 dom M), .box 32 [.i 0, .i 0, .i 0, .ns, .i 0, .i 0, .i 0, .i 0, .b false], eR89 (((v1.2).h).l)]⟩ ?_
      refine goK hT 6 (K15 1110 4) ⟨40, [(2, .ptr 3 0 0 0), (28, .ifc 92 (.ptr 0 0 0 0))], [.box 86 [.own 4 1 0 ((((v1.2).h).l).length)], .gone, .obj (arO hold_item.e hold_item.nl 95 dom M), .box 32 [.i 0, .i 0, .i 0, .ns, .i 0, .i 0, .i 0, .i 0, .b false], eR89 (((v1.2).h).l)]⟩ ?_
      obtain ⟨v2, h6, H⟩ := ibC H
      refine ak_callP (avs := [.ifc 92 (.ptr 0 0 0 0)]) (dst := some 29) (k' := (K15 1110 5)) [2, 29] [0, 4, 2] hP enters_37 (heap_Pop_i92.says (⟨(⟨((v1.2).h).l⟩ : hold_items)⟩ : hold_Queue) dom M h6) (by kernel_rfl) (hands_three rfl rfl rfl (by decide)) (.cons (.same (.ifc 92 (.ptr 0 0 0 0))) .nil) (st' := ⟨40, [(2, .ptr 3 0 0 0), (29, .d (.ifc 89 (pA v2.1 0)))], [.box 86 [.own 5 1 0 v2.2.1.h.l.length], .gone, .obj (arO hold_item.e hold_item.nl 95 dom v2.2.2), .box 32 [.i 0, .i 0, .i 0, .ns, .i 0, .i 0, .i 0, .i 0, .b false], .gone, eR89 v2.2.1.h.l]⟩) (by kernel_rfl) ?_
      refine ak_assert hT [2, 30] (a := 89) (y := .d (pA v2.1 0)) (dst := some 30) (k' := (K15 1110 6)) (by kernel_rfl) (by rw [hP]; exact Try.underlying89) (fun _ h => by cases h) (st' := ⟨40, [(2, .ptr 3 0 0 0), (30, .tup [.d (pA v2.1 0), .b true])], [.box 86 [.own 5 1 0 v2.2.1.h.l.length], .gone, .obj (arO hold_item.e hold_item.nl 95 dom v2.2.2), .box 32 [.i 0, .i 0, .i 0, .ns, .i 0, .i 0, .i 0, .i 0, .b false], .gone, eR89 v2.2.1.h.l]⟩) (by kernel_rfl) ?_
      refine goK hT 19 (K15 111110 3) ⟨40, [(2, .ptr 3 0 0 0), (38, .d (pA v2.1 0))], [.box 86 [.own 5 1 0 v2.2.1.h.l.length], .gone, .obj (arO hold_item.e hold_item.nl 95 dom v2.2.2), .box 32 [.i 0, .i 0, .i 0, .ns, .i 0, .i 0, .i 0, .i 0, .b false], .gone, eR89 v2.2.1.h.l]⟩ ?_
      obtain ⟨h7, H⟩ := iC H
      refine ak_lda hT [2, 39] (e := hold_item.e) (he := hold_item.nl) (ty := 95) (dom := dom) (m := v2.2.2) 2 (a := v2.1) (off := 0) (s := 9) (agg := true) (dst := some 39) (k' := (K15 111110 4)) (api_Held.e ((v2.2.2 v2.1).h)) (by kernel_rfl) (by kernel_rfl) h7 rfl rfl (fun h => by cases h) (st' := ⟨40, [(2, .ptr 3 0 0 0), (39, .d (eG32 ((v2.2.2 v2.1).h)))], [.box 86 [.own 5 1 0 v2.2.1.h.l.length], .gone, .obj (arO hold_item.e hold_item.nl 95 dom v2.2.2), .box 32 [.i 0, .i 0, .i 0, .ns, .i 0, .i 0, .i 0, .i 0, .b false], .gone, eR89 v2.2.1.h.l]⟩) (by kernel_rfl) ?_
      refine goK hT 3 (K15 11111 1) ⟨40, [(2, .ptr 3 0 0 0), (3, .b true)], [.box 86 [.own 5 1 0 v2.2.1.h.l.length], .gone, .obj (arO hold_item.e hold_item.nl 95 dom v2.2.2), .box 32 [.i ((((v2.2.2 v2.1).h).M).Client), .i ((((v2.2.2 v2.1).h).M).Seq), .i ((((v2.2.2 v2.1).h).M).Kind), .d (eL70 true ((((v2.2.2 v2.1).h).M).Pairs)), .i (((((v2.2.2 v2.1).h).M).Over).Lo), .i (((((v2.2.2 v2.1).h).M).Over).Hi), .i ((((v2.2.2 v2.1).h).M).Old), .i (((v2.2.2 v2.1).h).Time), .b (((v2.2.2 v2.1).h).Final)], .gone, eR89 v2.2.1.h.l]⟩ ?_
      obtain rfl := retC H
      exact ak_retM hT hf hX (av := .tup [.d (.agg [.i ((((v2.2.2 v2.1).h).M).Client), .i ((((v2.2.2 v2.1).h).M).Seq), .i ((((v2.2.2 v2.1).h).M).Kind), eL70 true ((((v2.2.2 v2.1).h).M).Pairs), .i (((((v2.2.2 v2.1).h).M).Over).Lo), .i (((((v2.2.2 v2.1).h).M).Over).Hi), .i ((((v2.2.2 v2.1).h).M).Old), .i (((v2.2.2 v2.1).h).Time), .b (((v2.2.2 v2.1).h).Final)]), .b true]) (by kernel_rfl) [0, 1, 2, 5] (sel_of_eq (by kernel_rfl)) (by decide) (by rw [h0]; rfl) (by kernel_rfl) (fun _ h => all_cons (.box (.cons (.own _ _ _ _) .nil)) (fun _ h => all_cons .gone (fun _ h => all_cons (.obj _) (fun _ h => all_cons (nr_vec nlA) (fun _ h => all_nil h) h) h) h) h) (.tup (.cons (.d (.agg (api_Held.nl _))) (.cons (.d (.v _)) .nil)))
  rw [← h1]
  refine goK hT 2 (K15 1100 4) ⟨40, [(0, .ptr 0 0 0 0), (2, .ptr 4 0 0 0), (9, .b (v1.1 == 0))], [.box 86 [.own 5 1 0 ((((v1.2).h).l).length)], .gone, .obj (arO hold_item.e hold_item.nl 95 dom M), .gone, .box 32 [.i 0, .i 0, .i 0, .ns, .i 0, .i 0, .i 0, .i 0, .b false], eR89 (((v1.2).h).l)]⟩ ?_
  by_cases c2 : v1.1 = 0
  · replace H := iT c2 H
    rw [eqT c2]
    refine goK hT 14 (K15 110 1) ⟨40, [(0, .ptr 0 0 0 0), (2, .ptr 4 0 0 0), (22, .b true)], [.box 86 [.own 5 1 0 ((((v1.2).h).l).length)], .gone, .obj (arO hold_item.e hold_item.nl 95 dom M), .gone, .box 32 [.i 0, .i 0, .i 0, .ns, .i 0, .i 0, .i 0, .i 0, .b false], eR89 (((v1.2).h).l)]⟩ ?_
    refine cutK [0, 1, 2, 4, 5] ⟨40, [(0, .ptr 0 0 0 0), (2, .ptr 3 0 0 0), (22, .b true)], [.box 86 [.own 4 1 0 ((((v1.2).h).l).length)], .gone, .obj (arO hold_item.e hold_item.nl 95 dom M), .box 32 [.i 0, .i 0, .i 0, .ns, .i 0, .i 0, .i 0, .i 0, .b false], eR89 (((v1.2).h).l)]⟩ h0 ?_
    exact Jj1 true H
  · replace H := iF c2 H
    rw [eqF c2]
    refine goK hT 5 (K15 1100 9) ⟨40, [(0, .ptr 0 0 0 0), (2, .ptr 4 0 0 0), (9, .b false), (14, .own 5 1 0 ((((v1.2).h).l).length))], [.box 86 [.own 5 1 0 ((((v1.2).h).l).length)], .gone, .obj (arO hold_item.e hold_item.nl 95 dom M), .gone, .box 32 [.i 0, .i 0, .i 0, .ns, .i 0, .i 0, .i 0, .i 0, .b false], eR89 (((v1.2).h).l)]⟩ ?_
    obtain ⟨h3, H⟩ := iC H
    refine ak_idx hT [0, 2, 9, 15] (i := 0) (n := ((((v1.2).h).l).length : Int)) h3.1 h3.2 (k' := (K15 1100 10)) (st' := ⟨40, [(0, .ptr 0 0 0 0), (2, .ptr 4 0 0 0), (9, .b false), (15, .ptr 5 1 0 0)], [.box 86 [.own 5 1 0 ((((v1.2).h).l).length)], .gone, .obj (arO hold_item.e hold_item.nl 95 dom M), .gone, .box 32 [.i 0, .i 0, .i 0, .ns, .i 0, .i 0, .i 0, .i 0, .b false], eR89 (((v1.2).h).l)]⟩) (by kernel_rfl) ?_
    refine ak_ld hT [0, 2, 9, 16] (i := 0) (n := (((v1.2).h).l).length) (by omega) (k' := (K15 1100 11)) (st' := ⟨40, [(0, .ptr 0 0 0 0), (2, .ptr 4 0 0 0), (9, .b false), (16, .d (pA ((((v1.2).h).l).getD 0 0) 0))], [.box 86 [.own 5 1 0 ((((v1.2).h).l).length)], .gone, .obj (arO hold_item.e hold_item.nl 95 dom M), .gone, .box 32 [.i 0, .i 0, .i 0, .ns, .i 0, .i 0, .i 0, .i 0, .b false], eR89 (((v1.2).h).l)]⟩) (by kernel_rfl) ?_
    refine goK hT 3 (K15 1100 14) ⟨40, [(0, .ptr 0 0 0 0), (2, .ptr 4 0 0 0), (9, .b false), (19, .d (pA ((((v1.2).h).l).getD 0 0) 8))], [.box 86 [.own 5 1 0 ((((v1.2).h).l).length)], .gone, .obj (arO hold_item.e hold_item.nl 95 dom M), .gone, .box 32 [.i 0, .i 0, .i 0, .ns, .i 0, .i 0, .i 0, .i 0, .b false], eR89 (((v1.2).h).l)]⟩ ?_
    obtain ⟨h4, H⟩ := iC H
    refine ak_lda hT [0, 2, 9, 20] (e := hold_item.e) (he := hold_item.nl) (ty := 95) (dom := dom) (m := M) 2 (a := (((v1.2).h).l).getD 0 0) (off := 8) (s := 1) (agg := false) (dst := some 20) (k' := (K15 1100 15)) [.b (((M ((((v1.2).h).l).getD 0 0)).h).Final)] (by kernel_rfl) (by kernel_rfl) h4 rfl rfl (fun _ => rfl) (st' := ⟨40, [(0, .ptr 0 0 0 0), (2, .ptr 4 0 0 0), (9, .b false), (20, .b (((M ((((v1.2).h).l).getD 0 0)).h).Final))], [.box 86 [.own 5 1 0 ((((v1.2).h).l).length)], .gone, .obj (arO hold_item.e hold_item.nl 95 dom M), .gone, .box 32 [.i 0, .i 0, .i 0, .ns, .i 0, .i 0, .i 0, .i 0, .b false], eR89 (((v1.2).h).l)]⟩) (by kernel_rfl) ?_
    refine goK hT 3 (K15 110 1) ⟨40, [(0, .ptr 0 0 0 0), (2, .ptr 4 0 0 0), (22, .b (!(((M ((((v1.2).h).l).getD 0 0)).h).Final)))], [.box 86 [.own 5 1 0 ((((v1.2).h).l).length)], .gone, .obj (arO hold_item.e hold_item.nl 95 dom M), .gone, .box 32 [.i 0, .i 0, .i 0, .ns, .i 0, .i 0, .i 0, .i 0, .b false], eR89 (((v1.2).h).l)]⟩ ?_
    refine cutK [0, 1, 2, 4, 5] ⟨40, [(0, .ptr 0 0 0 0), (2, .ptr 3 0 0 0), (22, .b (!(((M ((((v1.2).h).l).getD 0 0)).h).Final)))], [.box 86 [.own 4 1 0 ((((v1.2).h).l).length)], .gone, .obj (arO hold_item.e hold_item.nl 95 dom M), .box 32 [.i 0, .i 0, .i 0, .ns, .i 0, .i 0, .i 0, .i 0, .b false], eR89 (((v1.2).h).l)]⟩ h0 ?_
    exact Jj1 (!(((M ((((v1.2).h).l).getD 0 0)).h).Final)) H

theorem hold_own.says (a0 : api_Held) {r : api_Held} (H : hold_own a0 = some r) : Says Try.prog 35 [] [.d (eG32 a0)] [] (.d (eG32 r)) := by
  refine says_of Try.func35 rfl (nt := 10) rfl (Nat.le_of_ble_eq_true rfl) fun X hP h0 hX => ?_
  have hT : TabOk X.P T := hP ▸ tok
  have hf : X.P.funcs[35]? = some Try.f35 := hP ▸ Try.func35
  refine goK hT 10 (K35 110 3) ⟨10, [(1, .ptr 0 0 0 0), (2, .ptr 1 0 0 0), (5, .d (eL70 true a0.M.Pairs))], [.box 32 (eC32 a0), .box 32 [.i 0, .i 0, .i 0, .ns, .i 0, .i 0, .i 0, .i 0, .b false]]⟩ ?_
  obtain ⟨h1, H⟩ := iC H
  refine ak_callP (avs := [.d (eL70 true a0.M.Pairs)]) (dst := some 6) (k' := (K35 110 4)) [1, 2, 6] [] hP enters_54 (clone54 (tg := true) a0.M.Pairs h1) (by kernel_rfl) (hands_none _) (.cons (pass_d _) .nil) (st' := ⟨10, [(1, .ptr 0 0 0 0), (2, .ptr 1 0 0 0), (6, .own 2 2 0 a0.M.Pairs.length)], [.box 32 (eC32 a0), .box 32 [.i 0, .i 0, .i 0, .ns, .i 0, .i 0, .i 0, .i 0, .b false], eR70 a0.M.Pairs]⟩) (by kernel_rfl) ?_
  refine goK hT 7 (K35 1110 1) ⟨10, [(2, .ptr 1 0 0 0), (9, .agg [.i a0.M.Client, .i a0.M.Seq, .i a0.M.Kind, .own 2 2 0 a0.M.Pairs.length, .i a0.M.Over.Lo, .i a0.M.Over.Hi, .i a0.M.Old, .i a0.Time, .b a0.Final])], [.box 32 [.i a0.M.Client, .i a0.M.Seq, .i a0.M.Kind, .own 2 2 0 a0.M.Pairs.length, .i a0.M.Over.Lo, .i a0.M.Over.Hi, .i a0.M.Old, .i a0.Time, .b a0.Final], .box 32 [.i 0, .i 0, .i 0, .ns, .i 0, .i 0, .i 0, .i 0, .b false], eR70 a0.M.Pairs]⟩ ?_
  refine ak_freeze 2 (kk := 2) (n := a0.M.Pairs.length) (ty := 70) (g := vec api_Pair.e api_Pair.z a0.M.Pairs) (by kernel_rfl) (st' := ⟨10, [(2, .ptr 1 0 0 0), (9, .agg [.i a0.M.Client, .i a0.M.Seq, .i a0.M.Kind, .own 2 2 0 a0.M.Pairs.length, .i a0.M.Over.Lo, .i a0.M.Over.Hi, .i a0.M.Old, .i a0.Time, .b a0.Final])], [.box 32 [.i a0.M.Client, .i a0.M.Seq, .i a0.M.Kind, .own 2 2 0 a0.M.Pairs.length, .i a0.M.Over.Lo, .i a0.M.Over.Hi, .i a0.M.Old, .i a0.Time, .b a0.Final], .box 32 [.i 0, .i 0, .i 0, .ns, .i 0, .i 0, .i 0, .i 0, .b false], eF70 a0.M.Pairs]⟩) (by kernel_rfl) ?_
  refine ak_sealS (av := .agg [.i a0.M.Client, .i a0.M.Seq, .i a0.M.Kind, .own 2 2 0 a0.M.Pairs.length, .i a0.M.Over.Lo, .i a0.M.Over.Hi, .i a0.M.Old, .i a0.Time, .b a0.Final]) (y := eG32 a0) [2, 9] 9 (st' := ⟨10, [(2, .ptr 1 0 0 0), (9, .d (eG32 a0))], [.box 32 [.i a0.M.Client, .i a0.M.Seq, .i a0.M.Kind, .own 2 2 0 a0.M.Pairs.length, .i a0.M.Over.Lo, .i a0.M.Over.Hi, .i a0.M.Old, .i a0.Time, .b a0.Final], .box 32 [.i 0, .i 0, .i 0, .ns, .i 0, .i 0, .i 0, .i 0, .b false], eF70 a0.M.Pairs]⟩) (by kernel_rfl) (.agg (.cons (.d _) (.cons (.d _) (.cons (.d _) (.cons (.own (ty := 70) (k := 2) (by kernel_rfl)) (.cons (.d _) (.cons (.d _) (.cons (.d _) (.cons (.d _) (.cons (.d _) .nil)))))))))) (by kernel_rfl) ?_
  refine goK hT 2 (K35 111 1) ⟨10, [(2, .ptr 1 0 0 0)], [.box 32 [.i a0.M.Client, .i a0.M.Seq, .i a0.M.Kind, .own 2 2 0 a0.M.Pairs.length, .i a0.M.Over.Lo, .i a0.M.Over.Hi, .i a0.M.Old, .i a0.Time, .b a0.Final], .box 32 (eC32 a0), eF70 a0.M.Pairs]⟩ ?_
  obtain rfl := retC H
  exact ak_retM hT hf hX (av := .d (eG32 a0)) (by kernel_rfl) [] (sel_of_eq (by kernel_rfl)) (by decide) (by rw [h0]; rfl) (by kernel_rfl) (fun _ h => all_nil h) (.d (.agg (api_Held.nl _)))

theorem hold_Queue_Find.says (a0 : hold_Queue) (a1 : Int) (a2 : Int) (dom : List Nat) (M : Nat → hold_item) {r : api_Held × Bool × hold_Queue} (H : hold_Queue_Find a0 a1 a2 dom M = some r) : Says Try.prog 26 [.box 86 [.own 1 1 0 a0.h.l.length], eR89 a0.h.l, .obj (arO hold_item.e hold_item.nl 95 dom M)] [.ptr 0 0 0 0, .i a1, .i a2] [.box 86 [.own 3 1 0 r.2.2.h.l.length], .gone, .obj (arO hold_item.e hold_item.nl 95 dom M), eR89 r.2.2.h.l] (.tup [.d (eG32 r.1), .b r.2.1]) := by
  refine says_of Try.func26 rfl (nt := 21) rfl (Nat.le_of_ble_eq_true rfl) fun X hP h0 hX => ?_
  have hT : TabOk X.P T := hP ▸ tok
  have hf : X.P.funcs[26]? = some Try.f26 := hP ▸ Try.func26
  refine ak_dup 1 (r := eR89 a0.h.l) rfl rfl (st' := ⟨21, [(0, .ptr 0 0 0 0), (1, .i a1), (2, .i a2)], [.box 86 [.own 3 1 0 a0.h.l.length], .gone, .obj (arO hold_item.e hold_item.nl 95 dom M), eR89 a0.h.l]⟩) (by kernel_rfl) (by kernel_rfl) rfl ?_
  refine goK hT 10 (K26 110 3) ⟨21, [(6, .ptr 4 0 0 0), (9, .ptr 0 0 0 0), (10, .i a1), (11, .i a2)], [.box 86 [.own 3 1 0 a0.h.l.length], .gone, .obj (arO hold_item.e hold_item.nl 95 dom M), eR89 a0.h.l, .box 32 [.i 0, .i 0, .i 0, .ns, .i 0, .i 0, .i 0, .i 0, .b false]]⟩ ?_
  obtain ⟨v1, h1, H⟩ := ibC H
  cases q2 : v1.1 with
  | none =>
      rw [q2] at H
      replace H := ioptN H
      have Sq2 := hold_Queue_find.says (⟨(⟨a0.h.l⟩ : hold_items)⟩ : hold_Queue) a1 a2 dom M h1
      rw [q2] at Sq2
      refine ak_callP (avs := [.ptr 0 0 0 0, .i a1, .i a2]) (dst := some 12) (k' := (K26 110 4)) [6, 12] [0, 3, 2] hP enters_33 (Sq2) (by kernel_rfl) (hands_three rfl rfl rfl (by decide)) (.cons (.same (.ptr 0 0 0 0)) (.cons (pass_d _) (.cons (pass_d _) .nil))) (st' := ⟨21, [(6, .ptr 4 0 0 0), (12, .d .np)], [.box 86 [.own 5 1 0 v1.2.h.l.length], .gone, .obj (arO hold_item.e hold_item.nl 95 dom M), .gone, .box 32 [.i 0, .i 0, .i 0, .ns, .i 0, .i 0, .i 0, .i 0, .b false], eR89 v1.2.h.l]⟩) (by kernel_rfl) ?_
      refine goK hT 12 (K26 1110100 1) ⟨21, [(6, .ptr 4 0 0 0), (15, .d (.agg [.i 0, .i 0, .i 0, .ns, .i 0, .i 0, .i 0, .i 0, .b false]))], [.box 86 [.own 5 1 0 v1.2.h.l.length], .gone, .obj (arO hold_item.e hold_item.nl 95 dom M), .gone, .box 32 [.i 0, .i 0, .i 0, .ns, .i 0, .i 0, .i 0, .i 0, .b false], eR89 v1.2.h.l]⟩ ?_
      refine ak_sealS (av := .d (.agg [.i 0, .i 0, .i 0, .ns, .i 0, .i 0, .i 0, .i 0, .b false])) (y := .agg [.i 0, .i 0, .i 0, eL70 true ([] : List api_Pair), .i 0, .i 0, .i 0, .i 0, .b false]) [6, 15] 15 (st' := ⟨21, [(6, .ptr 4 0 0 0), (15, .d (.agg [.i 0, .i 0, .i 0, eL70 true ([] : List api_Pair), .i 0, .i 0, .i 0, .i 0, .b false]))], [.box 86 [.own 5 1 0 v1.2.h.l.length], .gone, .obj (arO hold_item.e hold_item.nl 95 dom M), .gone, .box 32 [.i 0, .i 0, .i 0, .ns, .i 0, .i 0, .i 0, .i 0, .b false], eR89 v1.2.h.l]⟩) (by kernel_rfl) (.aggd (.cons (.d _) (.cons (.d _) (.cons (.d _) (.cons (.nil _) (.cons (.d _) (.cons (.d _) (.cons (.d _) (.cons (.d _) (.cons (.d _) .nil)))))))))) (by kernel_rfl) ?_
      refine goK hT 3 (K26 111010 1) ⟨21, [(6, .ptr 4 0 0 0), (7, .b false)], [.box 86 [.own 5 1 0 v1.2.h.l.length], .gone, .obj (arO hold_item.e hold_item.nl 95 dom M), .gone, .box 32 [.i 0, .i 0, .i 0, .d (eL70 true ([] : List api_Pair)), .i 0, .i 0, .i 0, .i 0, .b false], eR89 v1.2.h.l]⟩ ?_
      obtain rfl := retC H
      exact ak_retM hT hf hX (av := .tup [.d (.agg [.i 0, .i 0, .i 0, eL70 true ([] : List api_Pair), .i 0, .i 0, .i 0, .i 0, .b false]), .b false]) (by kernel_rfl) [0, 1, 2, 5] (sel_of_eq (by kernel_rfl)) (by decide) (by rw [h0]; rfl) (by kernel_rfl) (fun _ h => all_cons (.box (.cons (.own _ _ _ _) .nil)) (fun _ h => all_cons .gone (fun _ h => all_cons (.obj _) (fun _ h => all_cons (nr_vec nlA) (fun _ h => all_nil h) h) h) h) h) (.tup (.cons (.d (.agg (api_Held.nl _))) (.cons (.d (.v _)) .nil)))
  | some v2 =>
      rw [q2] at H
      replace H := ioptS H
      have Sq2 := hold_Queue_find.says (⟨(⟨a0.h.l⟩ : hold_items)⟩ : hold_Queue) a1 a2 dom M h1
      rw [q2] at Sq2
      refine ak_callP (avs := [.ptr 0 0 0 0, .i a1, .i a2]) (dst := some 12) (k' := (K26 110 4)) [6, 12] [0, 3, 2] hP enters_33 (Sq2) (by kernel_rfl) (hands_three rfl rfl rfl (by decide)) (.cons (.same (.ptr 0 0 0 0)) (.cons (pass_d _) (.cons (pass_d _) .nil))) (st' := ⟨21, [(6, .ptr 4 0 0 0), (12, .d (pA v2 0))], [.box 86 [.own 5 1 0 v1.2.h.l.length], .gone, .obj (arO hold_item.e hold_item.nl 95 dom M), .gone, .box 32 [.i 0, .i 0, .i 0, .ns, .i 0, .i 0, .i 0, .i 0, .b false], eR89 v1.2.h.l]⟩) (by kernel_rfl) ?_
      refine goK hT 15 (K26 11110 3) ⟨21, [(6, .ptr 4 0 0 0), (18, .d (pA v2 0))], [.box 86 [.own 5 1 0 v1.2.h.l.length], .gone, .obj (arO hold_item.e hold_item.nl 95 dom M), .gone, .box 32 [.i 0, .i 0, .i 0, .ns, .i 0, .i 0, .i 0, .i 0, .b false], eR89 v1.2.h.l]⟩ ?_
      obtain ⟨h3, H⟩ := iC H
      refine ak_lda hT [6, 19] (e := hold_item.e) (he := hold_item.nl) (ty := 95) (dom := dom) (m := M) 2 (a := v2) (off := 0) (s := 9) (agg := true) (dst := some 19) (k' := (K26 11110 4)) (api_Held.e ((M v2).h)) (by kernel_rfl) (by kernel_rfl) h3 rfl rfl (fun h => by cases h) (st' := ⟨21, [(6, .ptr 4 0 0 0), (19, .d (eG32 ((M v2).h)))], [.box 86 [.own 5 1 0 v1.2.h.l.length], .gone, .obj (arO hold_item.e hold_item.nl 95 dom M), .gone, .box 32 [.i 0, .i 0, .i 0, .ns, .i 0, .i 0, .i 0, .i 0, .b false], eR89 v1.2.h.l]⟩) (by kernel_rfl) ?_
      obtain ⟨v3, h4, H⟩ := ibC H
      refine ak_callP (avs := [.d (eG32 ((M v2).h))]) (dst := some 20) (k' := (K26 11110 5)) [6, 20] [] hP enters_35 (hold_own.says ((M v2).h) h4) (by kernel_rfl) (hands_none _) (.cons (pass_d _) .nil) (st' := ⟨21, [(6, .ptr 4 0 0 0), (20, .d (eG32 v3))], [.box 86 [.own 5 1 0 v1.2.h.l.length], .gone, .obj (arO hold_item.e hold_item.nl 95 dom M), .gone, .box 32 [.i 0, .i 0, .i 0, .ns, .i 0, .i 0, .i 0, .i 0, .b false], eR89 v1.2.h.l]⟩) (by kernel_rfl) ?_
      refine goK hT 3 (K26 1111 1) ⟨21, [(6, .ptr 4 0 0 0), (7, .b true)], [.box 86 [.own 5 1 0 v1.2.h.l.length], .gone, .obj (arO hold_item.e hold_item.nl 95 dom M), .gone, .box 32 (eC32 v3), eR89 v1.2.h.l]⟩ ?_
      obtain rfl := retC H
      exact ak_retM hT hf hX (av := .tup [.d (eG32 v3), .b true]) (by kernel_rfl) [0, 1, 2, 5] (sel_of_eq (by kernel_rfl)) (by decide) (by rw [h0]; rfl) (by kernel_rfl) (fun _ h => all_cons (.box (.cons (.own _ _ _ _) .nil)) (fun _ h => all_cons .gone (fun _ h => all_cons (.obj _) (fun _ h => all_cons (nr_vec nlA) (fun _ h => all_nil h) h) h) h) h) (.tup (.cons (.d (.agg (api_Held.nl _))) (.cons (.d (.v _)) .nil)))

theorem hold_Queue_Floor.says (a0 : hold_Queue) (a1 : Int) (dom : List Nat) (M : Nat → hold_item) {r : Int × hold_Queue} (H : hold_Queue_Floor a0 a1 dom M = some r) : Says Try.prog 20 [.box 86 [.own 1 1 0 a0.h.l.length], eR89 a0.h.l, .obj (arO hold_item.e hold_item.nl 95 dom M)] [.ptr 0 0 0 0, .i a1] [.box 86 [.own 3 1 0 r.2.h.l.length], .gone, .obj (arO hold_item.e hold_item.nl 95 dom M), eR89 r.2.h.l] (.i r.1) := by
  refine says_of Try.func20 rfl (nt := 21) rfl (Nat.le_of_ble_eq_true rfl) fun X hP h0 hX => ?_
  have hT : TabOk X.P T := hP ▸ tok
  have hf : X.P.funcs[20]? = some Try.f20 := hP ▸ Try.func20
  refine ak_dup 1 (r := eR89 a0.h.l) rfl rfl (st' := ⟨21, [(0, .ptr 0 0 0 0), (1, .i a1)], [.box 86 [.own 3 1 0 a0.h.l.length], .gone, .obj (arO hold_item.e hold_item.nl 95 dom M), eR89 a0.h.l]⟩) (by kernel_rfl) (by kernel_rfl) rfl ?_
  refine goK hT 8 (K20 1100 1) ⟨21, [(0, .ptr 0 0 0 0), (1, .i a1), (5, .ptr 0 0 0 0)], [.box 86 [.own 3 1 0 a0.h.l.length], .gone, .obj (arO hold_item.e hold_item.nl 95 dom M), eR89 a0.h.l]⟩ ?_
  refine ak_callP (avs := [.ptr 0 0 0 0]) (dst := some 6) (k' := (K20 1100 2)) [0, 1, 6] [0, 3, 2] hP enters_14 (hold_Queue_Len.says (⟨(⟨a0.h.l⟩ : hold_items)⟩ : hold_Queue) dom M) (by kernel_rfl) (hands_three rfl rfl rfl (by decide)) (.cons (.same (.ptr 0 0 0 0)) .nil) (st' := ⟨21, [(0, .ptr 0 0 0 0), (1, .i a1), (6, .i ((hold_Queue_Len (⟨(⟨a0.h.l⟩ : hold_items)⟩ : hold_Queue) dom M).1))], [.box 86 [.own 4 1 0 (((((hold_Queue_Len (⟨(⟨a0.h.l⟩ : hold_items)⟩ : hold_Queue) dom M).2).h).l).length)], .gone, .obj (arO hold_item.e hold_item.nl 95 dom M), .gone, eR89 ((((hold_Queue_Len (⟨(⟨a0.h.l⟩ : hold_items)⟩ : hold_Queue) dom M).2).h).l)]⟩) (by kernel_rfl) ?_
  obtain ⟨v1, h1, H⟩ := idC H
  rw [← h1]
  refine goK hT 2 (K20 110 1) ⟨21, [(0, .ptr 0 0 0 0), (1, .i a1), (7, .b (v1.1 == 0))], [.box 86 [.own 4 1 0 ((((v1.2).h).l).length)], .gone, .obj (arO hold_item.e hold_item.nl 95 dom M), .gone, eR89 (((v1.2).h).l)]⟩ ?_
  by_cases c2 : v1.1 = 0
  · replace H := iT c2 H
    rw [eqT c2]
    refine goK hT 6 (K20 11010 1) ⟨21, [(4, .i a1)], [.box 86 [.own 4 1 0 ((((v1.2).h).l).length)], .gone, .obj (arO hold_item.e hold_item.nl 95 dom M), .gone, eR89 (((v1.2).h).l)]⟩ ?_
    obtain rfl := retC H
    exact ak_ret hf hX (av := .i a1) (by kernel_rfl) [0, 1, 2, 4] (sel_of_eq (by kernel_rfl)) (by decide) (by rw [h0]; rfl) (by kernel_rfl) (fun _ h => all_cons (.box (.cons (.own _ _ _ _) .nil)) (fun _ h => all_cons .gone (fun _ h => all_cons (.obj _) (fun _ h => all_cons (nr_vec nlA) (fun _ h => all_nil h) h) h) h) h) (.d (.v _))
  · replace H := iF c2 H
    rw [eqF c2]
    refine goK hT 2 (K20 11 1) ⟨21, [(0, .ptr 0 0 0 0)], [.box 86 [.own 4 1 0 ((((v1.2).h).l).length)], .gone, .obj (arO hold_item.e hold_item.nl 95 dom M), .gone, eR89 (((v1.2).h).l)]⟩ ?_
    refine goK hT 7 (K20 1110 5) ⟨21, [(13, .own 4 1 0 ((((v1.2).h).l).length))], [.box 86 [.own 4 1 0 ((((v1.2).h).l).length)], .gone, .obj (arO hold_item.e hold_item.nl 95 dom M), .gone, eR89 (((v1.2).h).l)]⟩ ?_
    obtain ⟨h3, H⟩ := iC H
    refine ak_idx hT [14] (i := 0) (n := ((((v1.2).h).l).length : Int)) h3.1 h3.2 (k' := (K20 1110 6)) (st' := ⟨21, [(14, .ptr 4 1 0 0)], [.box 86 [.own 4 1 0 ((((v1.2).h).l).length)], .gone, .obj (arO hold_item.e hold_item.nl 95 dom M), .gone, eR89 (((v1.2).h).l)]⟩) (by kernel_rfl) ?_
    refine ak_ld hT [15] (i := 0) (n := (((v1.2).h).l).length) (by omega) (k' := (K20 1110 7)) (st' := ⟨21, [(15, .d (pA ((((v1.2).h).l).getD 0 0) 0))], [.box 86 [.own 4 1 0 ((((v1.2).h).l).length)], .gone, .obj (arO hold_item.e hold_item.nl 95 dom M), .gone, eR89 (((v1.2).h).l)]⟩) (by kernel_rfl) ?_
    refine goK hT 3 (K20 1110 10) ⟨21, [(18, .d (pA ((((v1.2).h).l).getD 0 0) 7))], [.box 86 [.own 4 1 0 ((((v1.2).h).l).length)], .gone, .obj (arO hold_item.e hold_item.nl 95 dom M), .gone, eR89 (((v1.2).h).l)]⟩ ?_
    obtain ⟨h4, H⟩ := iC H
    refine ak_lda hT [19] (e := hold_item.e) (he := hold_item.nl) (ty := 95) (dom := dom) (m := M) 2 (a := (((v1.2).h).l).getD 0 0) (off := 7) (s := 1) (agg := false) (dst := some 19) (k' := (K20 1110 11)) [.i (((M ((((v1.2).h).l).getD 0 0)).h).Time)] (by kernel_rfl) (by kernel_rfl) h4 rfl rfl (fun _ => rfl) (st' := ⟨21, [(19, .i (((M ((((v1.2).h).l).getD 0 0)).h).Time))], [.box 86 [.own 4 1 0 ((((v1.2).h).l).length)], .gone, .obj (arO hold_item.e hold_item.nl 95 dom M), .gone, eR89 (((v1.2).h).l)]⟩) (by kernel_rfl) ?_
    refine goK hT 2 (K20 1110 13) ⟨21, [(4, .i (IntKind.wrap .i64 ((((M ((((v1.2).h).l).getD 0 0)).h).Time) - 1)))], [.box 86 [.own 4 1 0 ((((v1.2).h).l).length)], .gone, .obj (arO hold_item.e hold_item.nl 95 dom M), .gone, eR89 (((v1.2).h).l)]⟩ ?_
    obtain ⟨v2, h5, H⟩ := idC H
    rw [← h5]
    refine goK hT 1 (K20 111 1) ⟨21, [(4, .i v2)], [.box 86 [.own 4 1 0 ((((v1.2).h).l).length)], .gone, .obj (arO hold_item.e hold_item.nl 95 dom M), .gone, eR89 (((v1.2).h).l)]⟩ ?_
    obtain rfl := retC H
    exact ak_ret hf hX (av := .i v2) (by kernel_rfl) [0, 1, 2, 4] (sel_of_eq (by kernel_rfl)) (by decide) (by rw [h0]; rfl) (by kernel_rfl) (fun _ h => all_cons (.box (.cons (.own _ _ _ _) .nil)) (fun _ h => all_cons .gone (fun _ h => all_cons (.obj _) (fun _ h => all_cons (nr_vec nlA) (fun _ h => all_nil h) h) h) h) h) (.d (.v _))

theorem hold_items_Push_i89.says (a0 : hold_Queue) (a1 : Nat) (dom : List Nat) (M : Nat → hold_item) {r : hold_Queue × (Nat → hold_item)} (H : hold_items_Push_i89 a0 a1 dom M = some r) : Says Try.prog 116 [.box 86 [.own 1 1 0 a0.h.l.length], eR89 a0.h.l, .obj (arO hold_item.e hold_item.nl 95 dom M)] [.ptr 0 0 0 0, .d (.ifc 89 (pA a1 0))] [.box 86 [.own 3 1 0 r.1.h.l.length], .gone, .obj (arO hold_item.e hold_item.nl 95 dom r.2), eR89 r.1.h.l] (.tup []) := by
  refine says_of Try.func116 rfl (nt := 30) rfl (Nat.le_of_ble_eq_true rfl) fun X hP h0 hX => ?_
  have hT : TabOk X.P T := hP ▸ tok
  have hf : X.P.funcs[116]? = some Try.f116 := hP ▸ Try.func116
  refine ak_dup 1 (r := eR89 a0.h.l) rfl rfl (st' := ⟨30, [(0, .ptr 0 0 0 0), (1, .d (.ifc 89 (pA a1 0)))], [.box 86 [.own 3 1 0 a0.h.l.length], .gone, .obj (arO hold_item.e hold_item.nl 95 dom M), eR89 a0.h.l]⟩) (by kernel_rfl) (by kernel_rfl) rfl ?_
  refine goK hT 3 (K116 10 1) ⟨30, [(0, .ptr 0 0 0 0), (7, .d (.ifc 89 (pA a1 0)))], [.box 86 [.own 3 1 0 a0.h.l.length], .gone, .obj (arO hold_item.e hold_item.nl 95 dom M), eR89 a0.h.l]⟩ ?_
  refine ak_assert hT [0, 8] (a := 89) (y := .d (pA a1 0)) (dst := some 8) (k' := (K116 10 2)) (by kernel_rfl) (by rw [hP]; exact Try.underlying89) (fun _ h => by cases h) (st' := ⟨30, [(0, .ptr 0 0 0 0), (8, .tup [.d (pA a1 0), .b true])], [.box 86 [.own 3 1 0 a0.h.l.length], .gone, .obj (arO hold_item.e hold_item.nl 95 dom M), eR89 a0.h.l]⟩) (by kernel_rfl) ?_
  refine goK hT 21 (K116 11100 8) ⟨30, [(0, .ptr 0 0 0 0), (4, .d (pA a1 0)), (17, .i (a0.h.l.length : Int)), (19, .d (pA a1 9))], [.box 86 [.own 3 1 0 a0.h.l.length], .gone, .obj (arO hold_item.e hold_item.nl 95 dom M), eR89 a0.h.l]⟩ ?_
  obtain ⟨h1, H⟩ := iC H
  refine ak_sta hT [0, 4] (e := hold_item.e) (he := hold_item.nl) (ty := 95) (dom := dom) (m := M) 2 (a := a1) (off := 9) (s := 1) (ds := [.i (a0.h.l.length : Int)]) (k' := (K116 11100 9)) (⟨(⟨(⟨(((M a1).h).M).Client, (((M a1).h).M).Seq, (((M a1).h).M).Kind, (((M a1).h).M).Pairs, (⟨((((M a1).h).M).Over).Lo, ((((M a1).h).M).Over).Hi⟩ : api_Span), (((M a1).h).M).Old⟩ : api_Mut), ((M a1).h).Time, ((M a1).h).Final⟩ : api_Held), (a0.h.l.length : Int)⟩ : hold_item) (by kernel_rfl) (by kernel_rfl) h1 (Nat.le_of_ble_eq_true rfl) rfl (st' := ⟨30, [(0, .ptr 0 0 0 0), (4, .d (pA a1 0))], [.box 86 [.own 3 1 0 a0.h.l.length], .gone, .obj (arO hold_item.e hold_item.nl 95 dom (upd M a1 (⟨(⟨(⟨(((M a1).h).M).Client, (((M a1).h).M).Seq, (((M a1).h).M).Kind, (((M a1).h).M).Pairs, (⟨((((M a1).h).M).Over).Lo, ((((M a1).h).M).Over).Hi⟩ : api_Span), (((M a1).h).M).Old⟩ : api_Mut), ((M a1).h).Time, ((M a1).h).Final⟩ : api_Held), (a0.h.l.length : Int)⟩ : hold_item))), eR89 a0.h.l]⟩) (by kernel_rfl) ?_
  obtain ⟨v1, h2, H⟩ := idC H
  rw [← h2]
  refine goK hT 9 (K116 11101 7) ⟨30, [(20, .ptr 0 0 0 0), (24, .own 3 1 0 a0.h.l.length), (26, .own 4 1 0 1)], [.box 86 [.own 3 1 0 a0.h.l.length], .gone, .obj (arO hold_item.e hold_item.nl 95 dom v1), eR89 a0.h.l, .flat false 1 89 1 (fun j => [[pA a1 0]].getD j [])]⟩ ?_
  obtain ⟨h3, H⟩ := iC H
  refine ak_append1 (id := 3) (kk := 1) (by' := 8) (t := 82) (e := 89) (z := [.pointer none]) (dst := some 27) (id2 := 4) (e2 := 89) (fz := false) (k' := (K116 11101 8)) hT eA 0 a0.h.l a1 [20, 27] (by kernel_rfl) (by kernel_rfl) (by kernel_rfl) (by kernel_rfl) (by kernel_rfl) (by kernel_rfl) (by kernel_rfl) h3 (by omega) (st' := ⟨30, [(20, .ptr 0 0 0 0), (27, .own 5 1 0 ((a0.h.l ++ [a1]).length))], [.box 86 [.own 3 1 0 a0.h.l.length], .gone, .obj (arO hold_item.e hold_item.nl 95 dom v1), .gone, .flat false 1 89 1 (fun j => [[pA a1 0]].getD j []), eR89 (a0.h.l ++ [a1])]⟩) (by kernel_rfl) ?_
  refine goK hT 4 [] ⟨30, [], [.box 86 [.own 5 1 0 ((a0.h.l ++ [a1]).length)], .gone, .obj (arO hold_item.e hold_item.nl 95 dom v1), .gone, .flat false 1 89 1 (fun j => [[pA a1 0]].getD j []), eR89 (a0.h.l ++ [a1])]⟩ ?_
  obtain rfl := retC H
  exact ak_end hf hX (av := .tup []) (by kernel_rfl) [0, 1, 2, 5] (sel_of_eq (by kernel_rfl)) (by decide) (by rw [h0]; rfl) (by kernel_rfl) (fun _ h => all_cons (.box (.cons (.own _ _ _ _) .nil)) (fun _ h => all_cons .gone (fun _ h => all_cons (.obj _) (fun _ h => all_cons (nr_vec nlA) (fun _ h => all_nil h) h) h) h) h) (.tup .nil)

theorem heap_Push_i92_i89.says (a0 : hold_Queue) (a1 : Nat) (dom : List Nat) (M : Nat → hold_item) {r : hold_Queue × (Nat → hold_item)} (H : heap_Push_i92_i89 a0 a1 dom M = some r) : Says Try.prog 34 [.box 86 [.own 1 1 0 a0.h.l.length], eR89 a0.h.l, .obj (arO hold_item.e hold_item.nl 95 dom M)] [.ifc 92 (.ptr 0 0 0 0), .d (.ifc 89 (pA a1 0))] [.box 86 [.own 3 1 0 r.1.h.l.length], .gone, .obj (arO hold_item.e hold_item.nl 95 dom r.2), eR89 r.1.h.l] (.tup []) := by
  refine says_of Try.func34 rfl (nt := 12) rfl (Nat.le_of_ble_eq_true rfl) fun X hP h0 hX => ?_
  have hT : TabOk X.P T := hP ▸ tok
  have hf : X.P.funcs[34]? = some Try.f34 := hP ▸ Try.func34
  refine ak_dup 1 (r := eR89 a0.h.l) rfl rfl (st' := ⟨12, [(0, .ifc 92 (.ptr 0 0 0 0)), (1, .d (.ifc 89 (pA a1 0)))], [.box 86 [.own 3 1 0 a0.h.l.length], .gone, .obj (arO hold_item.e hold_item.nl 95 dom M), eR89 a0.h.l]⟩) (by kernel_rfl) (by kernel_rfl) rfl ?_
  refine goK hT 4 (K34 10 2) ⟨12, [(0, .ifc 92 (.ptr 0 0 0 0)), (4, .ifc 92 (.ptr 0 0 0 0)), (5, .d (.ifc 89 (pA a1 0)))], [.box 86 [.own 3 1 0 a0.h.l.length], .gone, .obj (arO hold_item.e hold_item.nl 95 dom M), eR89 a0.h.l]⟩ ?_
  obtain ⟨v1, h1, H⟩ := ibC H
  refine ak_callIP (x := .ptr 0 0 0 0) (avs := [.d (.ifc 89 (pA a1 0))]) (dst := some 6) (k' := (K34 10 3)) [0] [0, 3, 2] hP meth_92_Push enters_116 (hold_items_Push_i89.says (⟨(⟨a0.h.l⟩ : hold_items)⟩ : hold_Queue) a1 dom M h1) (by kernel_rfl) (fun _ _ h => by cases h) (fun _ _ h => by cases h) (hands_three rfl rfl rfl (by decide)) (.cons (.same (.ptr 0 0 0 0)) (.cons (pass_d _) .nil)) (st' := ⟨12, [(0, .ifc 92 (.ptr 0 0 0 0))], [.box 86 [.own 4 1 0 v1.1.h.l.length], .gone, .obj (arO hold_item.e hold_item.nl 95 dom v1.2), .gone, eR89 v1.1.h.l]⟩) (by kernel_rfl) ?_
  refine goK hT 4 (K34 11 2) ⟨12, [(7, .ifc 92 (.ptr 0 0 0 0)), (8, .ifc 92 (.ptr 0 0 0 0))], [.box 86 [.own 4 1 0 v1.1.h.l.length], .gone, .obj (arO hold_item.e hold_item.nl 95 dom v1.2), .gone, eR89 v1.1.h.l]⟩ ?_
  refine ak_callIP (x := .ptr 0 0 0 0) (avs := []) (dst := some 9) (k' := (K34 11 3)) [7, 9] [0, 4, 2] hP meth_92_Len enters_113 (hold_items_Len.says (⟨(⟨v1.1.h.l⟩ : hold_items)⟩ : hold_Queue) dom v1.2) (by kernel_rfl) (fun _ _ h => by cases h) (fun _ _ h => by cases h) (hands_three rfl rfl rfl (by decide)) (.cons (.same (.ptr 0 0 0 0)) .nil) (st' := ⟨12, [(7, .ifc 92 (.ptr 0 0 0 0)), (9, .i ((hold_items_Len (⟨(⟨v1.1.h.l⟩ : hold_items)⟩ : hold_Queue) dom v1.2).1))], [.box 86 [.own 5 1 0 (((((hold_items_Len (⟨(⟨v1.1.h.l⟩ : hold_items)⟩ : hold_Queue) dom v1.2).2).h).l).length)], .gone, .obj (arO hold_item.e hold_item.nl 95 dom v1.2), .gone, .gone, eR89 ((((hold_items_Len (⟨(⟨v1.1.h.l⟩ : hold_items)⟩ : hold_Queue) dom v1.2).2).h).l)]⟩) (by kernel_rfl) ?_
  obtain ⟨v2, h2, H⟩ := idC H
  rw [← h2]
  refine goK hT 1 (K34 11 4) ⟨12, [(7, .ifc 92 (.ptr 0 0 0 0)), (10, .i (IntKind.wrap .i64 (v2.1 - 1)))], [.box 86 [.own 5 1 0 ((((v2.2).h).l).length)], .gone, .obj (arO hold_item.e hold_item.nl 95 dom v1.2), .gone, .gone, eR89 (((v2.2).h).l)]⟩ ?_
  obtain ⟨v3, h3, H⟩ := ibC H
  refine ak_callP (avs := [.ifc 92 (.ptr 0 0 0 0), .i (IntKind.wrap .i64 (v2.1 - 1))]) (dst := some 11) (k' := (K34 11 5)) [] [0, 5, 2] hP enters_53 (heap_up_i92.says (⟨(⟨((v2.2).h).l⟩ : hold_items)⟩ : hold_Queue) (IntKind.wrap .i64 (v2.1 - 1)) dom v1.2 h3) (by kernel_rfl) (hands_three rfl rfl rfl (by decide)) (.cons (.same (.ifc 92 (.ptr 0 0 0 0))) (.cons (pass_d _) .nil)) (st' := ⟨12, [], [.box 86 [.own 6 1 0 v3.1.h.l.length], .gone, .obj (arO hold_item.e hold_item.nl 95 dom v3.2), .gone, .gone, .gone, eR89 v3.1.h.l]⟩) (by kernel_rfl) ?_
  refine goK hT 1 [] ⟨12, [], [.box 86 [.own 6 1 0 v3.1.h.l.length], .gone, .obj (arO hold_item.e hold_item.nl 95 dom v3.2), .gone, .gone, .gone, eR89 v3.1.h.l]⟩ ?_
  obtain rfl := retC H
  exact ak_end hf hX (av := .tup []) (by kernel_rfl) [0, 1, 2, 6] (sel_of_eq (by kernel_rfl)) (by decide) (by rw [h0]; rfl) (by kernel_rfl) (fun _ h => all_cons (.box (.cons (.own _ _ _ _) .nil)) (fun _ h => all_cons .gone (fun _ h => all_cons (.obj _) (fun _ h => all_cons (nr_vec nlA) (fun _ h => all_nil h) h) h) h) h) (.tup .nil)

theorem slices_IndexFunc_api_Pair.says {t0 : Bool} {ff1 : FuncId} {cc1 : List DV} (a0 : List api_Pair) (p1 : api_Pair → Option Bool) (he1 : Sy.Enters Try.prog ff1) (hp1 : ∀ (z0 : api_Pair) r, p1 z0 = some r → Says Try.prog ff1 [] ([.d (eG70 z0)] ++ List.map AV.d cc1) [] (.b r)) {r : Int} (H : slices_IndexFunc_api_Pair a0 p1 = some r) : Says Try.prog 90 [] [.d (eL70 t0 a0), .d (.fn ff1 cc1)] [] (.i r) := by
  refine says_of Try.func90 rfl (nt := 19) rfl (Nat.le_of_ble_eq_true rfl) fun X hP h0 hX => ?_
  have hT : TabOk X.P T := hP ▸ tok
  have hf : X.P.funcs[90]? = some Try.f90 := hP ▸ Try.func90
  refine goK hT 13 (K90 11010 0) ⟨19, [(0, .d (eL70 t0 a0)), (1, .d (.fn ff1 cc1)), (7, .i (a0.length : Int)), (8, .i 0)], []⟩ ?_
  have L : ∀ n, (∀ (x1_8 : Int), iter (slices_IndexFunc_api_Pair.step a0 p1) n (.l1 x1_8) = some r → AK X 90 ((K90 11010 0)) (Back X [] (.i r)) ⟨19, [(0, .d (eL70 t0 a0)), (1, .d (.fn ff1 cc1)), (7, .i (a0.length : Int)), (8, .i x1_8)], []⟩) := by
    intro n
    induction n with
    | zero => exact fun _ H => iter0 H
    | succ n ih =>
      · intro x1_8 H
        refine goK hT 5 (K90 1101001 0) ⟨19, [(0, .d (eL70 t0 a0)), (1, .d (.fn ff1 cc1)), (7, .i (a0.length : Int)), (8, .i x1_8), (9, .b (decide (x1_8 < (a0.length : Int))))], []⟩ ?_
        by_cases c1 : x1_8 < (a0.length : Int)
        · replace H := sT c1 H
          rw [decide_eq_true c1]
          refine goK hT 2 (K90 1101001 1) ⟨19, [(0, .d (eL70 t0 a0)), (1, .d (.fn ff1 cc1)), (7, .i (a0.length : Int)), (8, .i x1_8)], []⟩ ?_
          refine goK hT 12 (K90 110100110010 3) ⟨19, [(0, .d (eL70 t0 a0)), (1, .d (.fn ff1 cc1)), (5, .i x1_8), (7, .i (a0.length : Int)), (8, .i x1_8), (11, .d (.fn ff1 cc1)), (12, .d (eL70 t0 a0)), (13, .i x1_8)], []⟩ ?_
          obtain ⟨h2, H⟩ := sC H
          refine ak_idx hT [0, 1, 5, 7, 8, 11, 14] (i := x1_8) (n := (a0.length : Int)) h2.1 h2.2 (k' := (K90 110100110010 4)) (st' := ⟨19, [(0, .d (eL70 t0 a0)), (1, .d (.fn ff1 cc1)), (5, .i x1_8), (7, .i (a0.length : Int)), (8, .i x1_8), (11, .d (.fn ff1 cc1)), (14, .d (eP70 t0 a0 x1_8.toNat 0))], []⟩) (by kernel_rfl) ?_
          refine goK hT 1 (K90 110100110010 5) ⟨19, [(0, .d (eL70 t0 a0)), (1, .d (.fn ff1 cc1)), (5, .i x1_8), (7, .i (a0.length : Int)), (8, .i x1_8), (11, .d (.fn ff1 cc1)), (15, .d (eG70 (a0.getD x1_8.toNat api_Pair.z)))], []⟩ ?_
          obtain ⟨v1, h3, H⟩ := sbC H
          refine ak_callP (avs := [.d (eG70 (a0.getD x1_8.toNat api_Pair.z))] ++ List.map AV.d cc1) (dst := some 16) (k' := (K90 110100110010 6)) [0, 1, 5, 7, 8, 16] [] hP he1 (hp1 (a0.getD x1_8.toNat api_Pair.z) v1 h3) (by kernel_rfl) (hands_none _) (.cons (pass_d _) (passes_d _)) (st' := ⟨19, [(0, .d (eL70 t0 a0)), (1, .d (.fn ff1 cc1)), (5, .i x1_8), (7, .i (a0.length : Int)), (8, .i x1_8), (16, .b v1)], []⟩) (by kernel_rfl) ?_
          refine goK hT 1 (K90 11010011001 1) ⟨19, [(0, .d (eL70 t0 a0)), (1, .d (.fn ff1 cc1)), (5, .i x1_8), (7, .i (a0.length : Int)), (8, .i x1_8), (16, .b v1)], []⟩ ?_
          by_cases c4 : v1 = true
          · replace H := sT c4 H
            rw [c4]
            refine goK hT 6 (K90 1101001100110 1) ⟨19, [(4, .i x1_8)], []⟩ ?_
            obtain rfl := retC H
            exact ak_ret hf hX (av := .i x1_8) (by kernel_rfl) [] (sel_of_eq (by kernel_rfl)) (by decide) (by rw [h0]; rfl) (by kernel_rfl) (fun _ h => all_nil h) (.d (.v _))
          · replace H := sF c4 H
            rw [boF c4]
            refine goK hT 3 (K90 11010011 1) ⟨19, [(0, .d (eL70 t0 a0)), (1, .d (.fn ff1 cc1)), (7, .i (a0.length : Int)), (8, .i x1_8)], []⟩ ?_
            refine goK hT 5 (K90 11010 0) ⟨19, [(0, .d (eL70 t0 a0)), (1, .d (.fn ff1 cc1)), (7, .i (a0.length : Int)), (8, .i (IntKind.wrap .i64 (x1_8 + 1)))], []⟩ ?_
            refine cutK [] ⟨19, [(0, .d (eL70 t0 a0)), (1, .d (.fn ff1 cc1)), (7, .i (a0.length : Int)), (8, .i (IntKind.wrap .i64 (x1_8 + 1)))], []⟩ h0 ?_
            exact ih (IntKind.wrap .i64 (x1_8 + 1)) H
        · replace H := sF c1 H
          rw [decide_eq_false c1]
          refine goK hT 6 (K90 111 1) ⟨19, [(4, .i (-1))], []⟩ ?_
          obtain rfl := retC H
          exact ak_ret hf hX (av := .i (-1)) (by kernel_rfl) [] (sel_of_eq (by kernel_rfl)) (by decide) (by rw [h0]; rfl) (by kernel_rfl) (fun _ h => all_nil h) (.d (.v _))
  refine cutK [] ⟨19, [(0, .d (eL70 t0 a0)), (1, .d (.fn ff1 cc1)), (7, .i (a0.length : Int)), (8, .i 0)], []⟩ h0 ?_
  obtain ⟨n, H⟩ := loopC H
  exact (L n) 0 H

theorem slices_ContainsFunc_api_Pair.says {t0 : Bool} {ff1 : FuncId} {cc1 : List DV} (a0 : List api_Pair) (p1 : api_Pair → Option Bool) (he1 : Sy.Enters Try.prog ff1) (hp1 : ∀ (z0 : api_Pair) r, p1 z0 = some r → Says Try.prog ff1 [] ([.d (eG70 z0)] ++ List.map AV.d cc1) [] (.b r)) {r : Bool} (H : slices_ContainsFunc_api_Pair a0 p1 = some r) : Says Try.prog 72 [] [.d (eL70 t0 a0), .d (.fn ff1 cc1)] [] (.b r) := by
  refine says_of Try.func72 rfl (nt := 9) rfl (Nat.le_of_ble_eq_true rfl) fun X hP h0 hX => ?_
  have hT : TabOk X.P T := hP ▸ tok
  have hf : X.P.funcs[72]? = some Try.f72 := hP ▸ Try.func72
  refine goK hT 8 (K72 110 2) ⟨9, [(5, .d (eL70 t0 a0)), (6, .d (.fn ff1 cc1))], []⟩ ?_
  obtain ⟨v1, h1, H⟩ := ibC H
  refine ak_callP (avs := [.d (eL70 t0 a0), .d (.fn ff1 cc1)]) (dst := some 7) (k' := (K72 110 3)) [7] [] hP enters_90 (slices_IndexFunc_api_Pair.says (t0 := t0) (ff1 := ff1) (cc1 := cc1) a0 p1 he1 hp1 h1) (by kernel_rfl) (hands_none _) (.cons (pass_d _) (.cons (pass_d _) .nil)) (st' := ⟨9, [(7, .i v1)], []⟩) (by kernel_rfl) ?_
  refine goK hT 3 (K72 11 1) ⟨9, [(4, .b (decide (v1 ≥ 0)))], []⟩ ?_
  obtain rfl := retC H
  exact ak_ret hf hX (av := .b (decide (v1 ≥ 0))) (by kernel_rfl) [] (sel_of_eq (by kernel_rfl)) (by decide) (by rw [h0]; rfl) (by kernel_rfl) (fun _ h => all_nil h) (.d (.v _))

theorem mut_value.says (a0 : Int) : Says Try.prog 64 [] [.i a0] [] (.b (mut_value a0)) := by
  obtain ⟨r, H⟩ : ∃ r, mut_value a0 = r := ⟨_, rfl⟩
  rw [H]
  refine says_of Try.func64 rfl (nt := 9) rfl (Nat.le_of_ble_eq_true rfl) fun X hP h0 hX => ?_
  have hT : TabOk X.P T := hP ▸ tok
  have hf : X.P.funcs[64]? = some Try.f64 := hP ▸ Try.func64
  have Jj1 : ∀ (y1_2 : Bool), (mut_value.j1 y1_2) = r → AK X 64 ((K64 11 1)) (Back X [] (.b r)) ⟨9, [(2, .b y1_2)], []⟩ := by
    intro y1_2 H
    obtain rfl := H
    exact ak_ret hf hX (av := .b y1_2) (by kernel_rfl) [] (sel_of_eq (by kernel_rfl)) (by decide) (by rw [h0]; rfl) (by kernel_rfl) (fun _ h => all_nil h) (.d (.v _))
  refine goK hT 9 (K64 110 3) ⟨9, [(0, .i a0), (5, .b (decide (a0 ≥ (-1099511627776))))], []⟩ ?_
  by_cases c1 : a0 ≥ (-1099511627776)
  · replace H := iT c1 H
    rw [decide_eq_true c1]
    refine goK hT 5 (K64 11 1) ⟨9, [(2, .b (decide (a0 ≤ 1099511627776)))], []⟩ ?_
    refine cutK [] ⟨9, [(2, .b (decide (a0 ≤ 1099511627776)))], []⟩ h0 ?_
    exact Jj1 (decide (a0 ≤ 1099511627776)) H
  · replace H := iF c1 H
    rw [decide_eq_false c1]
    refine goK hT 5 (K64 11 1) ⟨9, [(2, .b false)], []⟩ ?_
    refine cutK [] ⟨9, [(2, .b false)], []⟩ h0 ?_
    exact Jj1 false H

theorem mut_pair.says (a0 : api_Pair) : Says Try.prog 74 [] [.d (eG70 a0)] [] (.b (mut_pair a0)) := by
  obtain ⟨r, H⟩ : ∃ r, mut_pair a0 = r := ⟨_, rfl⟩
  rw [H]
  refine says_of Try.func74 rfl (nt := 16) rfl (Nat.le_of_ble_eq_true rfl) fun X hP h0 hX => ?_
  have hT : TabOk X.P T := hP ▸ tok
  have hf : X.P.funcs[74]? = some Try.f74 := hP ▸ Try.func74
  have Jj1 : ∀ (y1_2 : Bool), (mut_pair.j1 y1_2) = r → AK X 74 ((K74 11 1)) (Back X [] (.b r)) ⟨16, [(2, .b y1_2)], []⟩ := by
    intro y1_2 H
    obtain rfl := H
    exact ak_ret hf hX (av := .b y1_2) (by kernel_rfl) [] (sel_of_eq (by kernel_rfl)) (by decide) (by rw [h0]; rfl) (by kernel_rfl) (fun _ h => all_nil h) (.d (.v _))
  refine goK hT 11 (K74 110 4) ⟨16, [(1, .ptr 0 0 0 0), (6, .b (decide (a0.Key ≥ 0)))], [.box 70 (eC70 a0)]⟩ ?_
  by_cases c1 : a0.Key ≥ 0
  · replace H := iT c1 H
    rw [decide_eq_true c1]
    refine goK hT 5 (K74 110 9) ⟨16, [(1, .ptr 0 0 0 0), (11, .b (decide (a0.Key < 4096)))], [.box 70 (eC70 a0)]⟩ ?_
    by_cases c2 : a0.Key < 4096
    · replace H := iT c2 H
      rw [decide_eq_true c2]
      refine goK hT 2 (K74 110 11) ⟨16, [(11, .b true), (13, .i a0.Val)], [.box 70 (eC70 a0)]⟩ ?_
      refine ak_callP (avs := [.i a0.Val]) (dst := some 14) (k' := (K74 110 12)) [11, 14] [] hP enters_64 (mut_value.says a0.Val) (by kernel_rfl) (hands_none _) (.cons (pass_d _) .nil) (st' := ⟨16, [(11, .b true), (14, .b (mut_value a0.Val))], [.box 70 (eC70 a0)]⟩) (by kernel_rfl) ?_
      refine goK hT 3 (K74 11 1) ⟨16, [(2, .b (mut_value a0.Val))], [.box 70 (eC70 a0)]⟩ ?_
      refine cutK [] ⟨16, [(2, .b (mut_value a0.Val))], []⟩ h0 ?_
      exact Jj1 (mut_value a0.Val) H
    · replace H := iF c2 H
      rw [decide_eq_false c2]
      refine goK hT 6 (K74 11 1) ⟨16, [(2, .b false)], [.box 70 (eC70 a0)]⟩ ?_
      refine cutK [] ⟨16, [(2, .b false)], []⟩ h0 ?_
      exact Jj1 false H
  · replace H := iF c1 H
    rw [decide_eq_false c1]
    refine goK hT 11 (K74 11 1) ⟨16, [(2, .b false)], [.box 70 (eC70 a0)]⟩ ?_
    refine cutK [] ⟨16, [(2, .b false)], []⟩ h0 ?_
    exact Jj1 false H

theorem mut_pairs_1.says (a0 : api_Pair) : Says Try.prog 73 [] [.d (eG70 a0)] [] (.b (mut_pairs_1 a0)) := by
  obtain ⟨r, H⟩ : ∃ r, mut_pairs_1 a0 = r := ⟨_, rfl⟩
  rw [H]
  refine says_of Try.func73 rfl (nt := 6) rfl (Nat.le_of_ble_eq_true rfl) fun X hP h0 hX => ?_
  have hT : TabOk X.P T := hP ▸ tok
  have hf : X.P.funcs[73]? = some Try.f73 := hP ▸ Try.func73
  refine goK hT 8 (K73 110 1) ⟨6, [(3, .d (eG70 a0))], [.box 70 (eC70 a0)]⟩ ?_
  refine ak_callP (avs := [.d (eG70 a0)]) (dst := some 4) (k' := (K73 110 2)) [4] [] hP enters_74 (mut_pair.says a0) (by kernel_rfl) (hands_none _) (.cons (pass_d _) .nil) (st' := ⟨6, [(4, .b (mut_pair a0))], [.box 70 (eC70 a0)]⟩) (by kernel_rfl) ?_
  refine goK hT 3 (K73 11 1) ⟨6, [(2, .b (!(mut_pair a0)))], [.box 70 (eC70 a0)]⟩ ?_
  obtain rfl := H
  exact ak_ret hf hX (av := .b (!(mut_pair a0))) (by kernel_rfl) [] (sel_of_eq (by kernel_rfl)) (by decide) (by rw [h0]; rfl) (by kernel_rfl) (fun _ h => all_nil h) (.d (.v _))

theorem mut_pairs.says (a0 : api_Mut) (a1 : Int) (a2 : Int) {r : Bool} (H : mut_pairs a0 a1 a2 = some r) : Says Try.prog 61 [] [.d (eG30 a0), .i a1, .i a2] [] (.b r) := by
  refine says_of Try.func61 rfl (nt := 25) rfl (Nat.le_of_ble_eq_true rfl) fun X hP h0 hX => ?_
  have hT : TabOk X.P T := hP ▸ tok
  have hf : X.P.funcs[61]? = some Try.f61 := hP ▸ Try.func61
  have Jj1 : ∀ (y1_6 : Bool), (mut_pairs.j1 y1_6) = some r → AK X 61 ((K61 11 1)) (Back X [] (.b r)) ⟨25, [(6, .b y1_6)], []⟩ := by
    intro y1_6 H
    obtain rfl := retC H
    exact ak_ret hf hX (av := .b y1_6) (by kernel_rfl) [] (sel_of_eq (by kernel_rfl)) (by decide) (by rw [h0]; rfl) (by kernel_rfl) (fun _ h => all_nil h) (.d (.v _))
  refine goK hT 13 (K61 110 6) ⟨25, [(2, .i a2), (3, .ptr 0 0 0 0), (12, .b (decide ((a0.Pairs.length : Int) ≥ a1)))], [.box 30 (eC30 a0)]⟩ ?_
  by_cases c1 : (a0.Pairs.length : Int) ≥ a1
  · replace H := iT c1 H
    rw [decide_eq_true c1]
    refine goK hT 7 (K61 110 13) ⟨25, [(3, .ptr 0 0 0 0), (19, .b (decide ((a0.Pairs.length : Int) ≤ a2)))], [.box 30 (eC30 a0)]⟩ ?_
    by_cases c2 : (a0.Pairs.length : Int) ≤ a2
    · replace H := iT c2 H
      rw [decide_eq_true c2]
      refine goK hT 2 (K61 110 15) ⟨25, [(19, .b true), (21, .d (eL70 true a0.Pairs))], [.box 30 (eC30 a0)]⟩ ?_
      obtain ⟨v1, h3, H⟩ := ibC H
      refine ak_callP (avs := [.d (eL70 true a0.Pairs), .d (.fn 73 [])]) (dst := some 22) (k' := (K61 110 16)) [19, 22] [] hP enters_72 (slices_ContainsFunc_api_Pair.says (t0 := true) (ff1 := 73) (cc1 := []) a0.Pairs (fun z0 => some (mut_pairs_1 z0)) enters_73 (fun z0 r h => by obtain rfl := retC h; exact mut_pairs_1.says z0) h3) (by kernel_rfl) (hands_none _) (.cons (pass_d _) (.cons (pass_d _) .nil)) (st' := ⟨25, [(19, .b true), (22, .b v1)], [.box 30 (eC30 a0)]⟩) (by kernel_rfl) ?_
      refine goK hT 4 (K61 11 1) ⟨25, [(6, .b (!v1))], [.box 30 (eC30 a0)]⟩ ?_
      refine cutK [] ⟨25, [(6, .b (!v1))], []⟩ h0 ?_
      exact Jj1 (!v1) H
    · replace H := iF c2 H
      rw [decide_eq_false c2]
      refine goK hT 7 (K61 11 1) ⟨25, [(6, .b false)], [.box 30 (eC30 a0)]⟩ ?_
      refine cutK [] ⟨25, [(6, .b false)], []⟩ h0 ?_
      exact Jj1 false H
  · replace H := iF c1 H
    rw [decide_eq_false c1]
    refine goK hT 14 (K61 11 1) ⟨25, [(6, .b false)], [.box 30 (eC30 a0)]⟩ ?_
    refine cutK [] ⟨25, [(6, .b false)], []⟩ h0 ?_
    exact Jj1 false H

theorem mut_rising.says {t0 : Bool} (a0 : List api_Pair) {r : Bool} (H : mut_rising a0 = some r) : Says Try.prog 62 [] [.d (eL70 t0 a0)] [] (.b r) := by
  refine says_of Try.func62 rfl (nt := 22) rfl (Nat.le_of_ble_eq_true rfl) fun X hP h0 hX => ?_
  have hT : TabOk X.P T := hP ▸ tok
  have hf : X.P.funcs[62]? = some Try.f62 := hP ▸ Try.func62
  refine goK hT 11 (K62 11010 0) ⟨22, [(0, .d (eL70 t0 a0)), (3, .i 1)], []⟩ ?_
  have L : ∀ n, (∀ (x1_3 : Int), iter (mut_rising.step a0) n (.l1 x1_3) = some r → AK X 62 ((K62 11010 0)) (Back X [] (.b r)) ⟨22, [(0, .d (eL70 t0 a0)), (3, .i x1_3)], []⟩) := by
    intro n
    induction n with
    | zero => exact fun _ H => iter0 H
    | succ n ih =>
      · intro x1_3 H
        refine goK hT 8 (K62 1101000 1) ⟨22, [(0, .d (eL70 t0 a0)), (3, .i x1_3), (7, .b (decide (x1_3 < (a0.length : Int))))], []⟩ ?_
        by_cases c1 : x1_3 < (a0.length : Int)
        · replace H := sT c1 H
          rw [decide_eq_true c1]
          refine goK hT 2 (K62 110100 1) ⟨22, [(0, .d (eL70 t0 a0)), (3, .i x1_3)], []⟩ ?_
          refine goK hT 3 (K62 110100100 0) ⟨22, [(0, .d (eL70 t0 a0)), (3, .i x1_3)], []⟩ ?_
          obtain ⟨h2, H⟩ := sC H
          obtain ⟨h3, H⟩ := sC H
          refine drawK (hP ▸ mixed) 12 [0, 3] [some (.d (eL70 t0 a0)), some (.i x1_3), some (.i (IntKind.wrap .i64 (x1_3 - 1))), some (.d (eP70 t0 a0 ((IntKind.wrap .i64 (x1_3 - 1)).toNat) 0)), some (.d (eP70 t0 a0 ((IntKind.wrap .i64 (x1_3 - 1)).toNat) 0)), some (.i ((a0.getD ((IntKind.wrap .i64 (x1_3 - 1)).toNat) api_Pair.z).Key)), some (.d (eL70 t0 a0)), some (.i x1_3), some (.d (eP70 t0 a0 x1_3.toNat 0)), some (.d (eP70 t0 a0 x1_3.toNat 0)), some (.i ((a0.getD x1_3.toNat api_Pair.z).Key)), some (.b (decide (((a0.getD ((IntKind.wrap .i64 (x1_3 - 1)).toNat) api_Pair.z).Key) ≥ ((a0.getD x1_3.toNat api_Pair.z).Key))))] (opG (opG (opG (opS (opG (opG (opG (opG (opS (opG (opG (opG op0 hT) hT) hT) (fun R rest h => ak_idx0 hT (i := IntKind.wrap .i64 (x1_3 - 1)) (n := (a0.length : Int)) h2.1 h2.2 (by kernel_rfl) h)) hT) hT) hT) hT) (fun R rest h => ak_idx0 hT (i := x1_3) (n := (a0.length : Int)) h3.1 h3.2 (by kernel_rfl) h)) hT) hT) hT) ?_
          refine goK hT 1 (K62 110100100 1) ⟨22, [(0, .d (eL70 t0 a0)), (3, .i x1_3), (21, .b (decide (((a0.getD ((IntKind.wrap .i64 (x1_3 - 1)).toNat) api_Pair.z).Key) ≥ ((a0.getD x1_3.toNat api_Pair.z).Key))))], []⟩ ?_
          by_cases c4 : ((a0.getD ((IntKind.wrap .i64 (x1_3 - 1)).toNat) api_Pair.z).Key) ≥ ((a0.getD x1_3.toNat api_Pair.z).Key)
          · replace H := sT c4 H
            rw [decide_eq_true c4]
            refine goK hT 5 (K62 11010010010 1) ⟨22, [(2, .b false)], []⟩ ?_
            obtain rfl := retC H
            exact ak_ret hf hX (av := .b false) (by kernel_rfl) [] (sel_of_eq (by kernel_rfl)) (by decide) (by rw [h0]; rfl) (by kernel_rfl) (fun _ h => all_nil h) (.d (.v _))
          · replace H := sF c4 H
            rw [decide_eq_false c4]
            refine goK hT 3 (K62 1101001 1) ⟨22, [(0, .d (eL70 t0 a0)), (3, .i x1_3)], []⟩ ?_
            refine goK hT 6 (K62 11010 0) ⟨22, [(0, .d (eL70 t0 a0)), (3, .i (IntKind.wrap .i64 (x1_3 + 1)))], []⟩ ?_
            refine cutK [] ⟨22, [(0, .d (eL70 t0 a0)), (3, .i (IntKind.wrap .i64 (x1_3 + 1)))], []⟩ h0 ?_
            exact ih (IntKind.wrap .i64 (x1_3 + 1)) H
        · replace H := sF c1 H
          rw [decide_eq_false c1]
          refine goK hT 6 (K62 111 1) ⟨22, [(2, .b true)], []⟩ ?_
          obtain rfl := retC H
          exact ak_ret hf hX (av := .b true) (by kernel_rfl) [] (sel_of_eq (by kernel_rfl)) (by decide) (by rw [h0]; rfl) (by kernel_rfl) (fun _ h => all_nil h) (.d (.v _))
  refine cutK [] ⟨22, [(0, .d (eL70 t0 a0)), (3, .i 1)], []⟩ h0 ?_
  obtain ⟨n, H⟩ := loopC H
  exact (L n) 1 H

theorem span_One.says (a0 : api_Span) : Says Try.prog 63 [] [.d (eG28 a0)] [] (.b (span_One a0)) := by
  obtain ⟨r, H⟩ : ∃ r, span_One a0 = r := ⟨_, rfl⟩
  rw [H]
  refine says_of Try.func63 rfl (nt := 18) rfl (Nat.le_of_ble_eq_true rfl) fun X hP h0 hX => ?_
  have hT : TabOk X.P T := hP ▸ tok
  have hf : X.P.funcs[63]? = some Try.f63 := hP ▸ Try.func63
  have Jj1 : ∀ (y1_2 : Bool), (span_One.j1 y1_2) = r → AK X 63 ((K63 11 1)) (Back X [] (.b r)) ⟨18, [(2, .b y1_2)], []⟩ := by
    intro y1_2 H
    obtain rfl := H
    exact ak_ret hf hX (av := .b y1_2) (by kernel_rfl) [] (sel_of_eq (by kernel_rfl)) (by decide) (by rw [h0]; rfl) (by kernel_rfl) (fun _ h => all_nil h) (.d (.v _))
  refine goK hT 11 (K63 110 4) ⟨18, [(1, .ptr 0 0 0 0), (6, .b (decide (a0.Lo ≥ 0)))], [.box 28 (eC28 a0)]⟩ ?_
  by_cases c1 : a0.Lo ≥ 0
  · replace H := iT c1 H
    rw [decide_eq_true c1]
    refine goK hT 7 (K63 110 11) ⟨18, [(1, .ptr 0 0 0 0), (13, .b (decide (a0.Lo < a0.Hi)))], [.box 28 (eC28 a0)]⟩ ?_
    by_cases c2 : a0.Lo < a0.Hi
    · replace H := iT c2 H
      rw [decide_eq_true c2]
      refine goK hT 6 (K63 11 1) ⟨18, [(2, .b (decide (a0.Hi ≤ 4096)))], [.box 28 (eC28 a0)]⟩ ?_
      refine cutK [] ⟨18, [(2, .b (decide (a0.Hi ≤ 4096)))], []⟩ h0 ?_
      exact Jj1 (decide (a0.Hi ≤ 4096)) H
    · replace H := iF c2 H
      rw [decide_eq_false c2]
      refine goK hT 6 (K63 11 1) ⟨18, [(2, .b false)], [.box 28 (eC28 a0)]⟩ ?_
      refine cutK [] ⟨18, [(2, .b false)], []⟩ h0 ?_
      exact Jj1 false H
  · replace H := iF c1 H
    rw [decide_eq_false c1]
    refine goK hT 13 (K63 11 1) ⟨18, [(2, .b false)], [.box 28 (eC28 a0)]⟩ ?_
    refine cutK [] ⟨18, [(2, .b false)], []⟩ h0 ?_
    exact Jj1 false H

theorem mut_kind.says (a0 : api_Mut) {r : Bool} (H : mut_kind a0 = some r) : Says Try.prog 46 [] [.d (eG30 a0)] [] (.b r) := by
  refine says_of Try.func46 rfl (nt := 102) rfl (Nat.le_of_ble_eq_true rfl) fun X hP h0 hX => ?_
  have hT : TabOk X.P T := hP ▸ tok
  have hf : X.P.funcs[46]? = some Try.f46 := hP ▸ Try.func46
  have Jj1 : ∀ (y1_23 : Bool), (mut_kind.j1 a0 y1_23) = some r → AK X 46 ((K46 1110 1)) (Back X [] (.b r)) ⟨102, [(1, .ptr 0 0 0 0), (23, .b y1_23)], [.box 30 (eC30 a0)]⟩ := by
    intro y1_23 H
    by_cases c7 : y1_23 = true
    · replace H := iT c7 H
      rw [c7]
      refine goK hT 5 (K46 111010 1) ⟨102, [(2, .b false)], [.box 30 (eC30 a0)]⟩ ?_
      obtain rfl := retC H
      exact ak_ret hf hX (av := .b false) (by kernel_rfl) [] (sel_of_eq (by kernel_rfl)) (by decide) (by rw [h0]; rfl) (by kernel_rfl) (fun _ h => all_nil h) (.d (.v _))
    · replace H := iF c7 H
      rw [boF c7]
      refine goK hT 2 (K46 111 1) ⟨102, [(1, .ptr 0 0 0 0)], [.box 30 (eC30 a0)]⟩ ?_
      refine goK hT 12 (K46 1111010 1) ⟨102, [(1, .ptr 0 0 0 0), (25, .i a0.Kind), (26, .b (a0.Kind == 1))], [.box 30 (eC30 a0)]⟩ ?_
      by_cases c8 : a0.Kind = 1
      · replace H := iT c8 H
        rw [eqT c8]
        refine goK hT 4 (K46 1111010100 1) ⟨102, [(1, .ptr 0 0 0 0), (28, .d (eG30 a0))], [.box 30 (eC30 a0)]⟩ ?_
        obtain ⟨v1, h9, H⟩ := ibC H
        have Jj2 : ∀ (y2_2 : Bool), (mut_kind.j2 y2_2) = some r → AK X 46 ((K46 111101010 1)) (Back X [] (.b r)) ⟨102, [(2, .b y2_2)], []⟩ := by
          intro y2_2 H
          obtain rfl := retC H
          exact ak_ret hf hX (av := .b y2_2) (by kernel_rfl) [] (sel_of_eq (by kernel_rfl)) (by decide) (by rw [h0]; rfl) (by kernel_rfl) (fun _ h => all_nil h) (.d (.v _))
        refine ak_callP (avs := [.d (eG30 a0), .i 1, .i 8]) (dst := some 29) (k' := (K46 1111010100 2)) [1, 29] [] hP enters_61 (mut_pairs.says a0 1 8 h9) (by kernel_rfl) (hands_none _) (.cons (pass_d _) (.cons (pass_d _) (.cons (pass_d _) .nil))) (st' := ⟨102, [(1, .ptr 0 0 0 0), (29, .b v1)], [.box 30 (eC30 a0)]⟩) (by kernel_rfl) ?_
        refine goK hT 1 (K46 1111010100 3) ⟨102, [(1, .ptr 0 0 0 0), (30, .b v1)], [.box 30 (eC30 a0)]⟩ ?_
        by_cases c10 : v1 = true
        · replace H := iT c10 H
          rw [c10]
          refine goK hT 2 (K46 1111010100 5) ⟨102, [(30, .b true), (32, .d (eL70 true a0.Pairs))], [.box 30 (eC30 a0)]⟩ ?_
          obtain ⟨v2, h11, H⟩ := ibC H
          refine ak_callP (avs := [.d (eL70 true a0.Pairs)]) (dst := some 33) (k' := (K46 1111010100 6)) [30, 33] [] hP enters_62 (mut_rising.says (t0 := true) a0.Pairs h11) (by kernel_rfl) (hands_none _) (.cons (pass_d _) .nil) (st' := ⟨102, [(30, .b true), (33, .b v2)], [.box 30 (eC30 a0)]⟩) (by kernel_rfl) ?_
          refine goK hT 3 (K46 111101010 1) ⟨102, [(2, .b v2)], [.box 30 (eC30 a0)]⟩ ?_
          refine cutK [] ⟨102, [(2, .b v2)], []⟩ h0 ?_
          exact Jj2 v2 H
        · replace H := iF c10 H
          rw [boF c10]
          refine goK hT 6 (K46 111101010 1) ⟨102, [(2, .b false)], [.box 30 (eC30 a0)]⟩ ?_
          refine cutK [] ⟨102, [(2, .b false)], []⟩ h0 ?_
          exact Jj2 false H
      · replace H := iF c8 H
        rw [eqF c8]
        refine goK hT 6 (K46 111101011 1) ⟨102, [(1, .ptr 0 0 0 0), (25, .i a0.Kind), (35, .b (a0.Kind == 2))], [.box 30 (eC30 a0)]⟩ ?_
        by_cases c12 : a0.Kind = 2
        · replace H := iT c12 H
          have Jj3 : ∀ (y3_2 : Bool), (mut_kind.j3 y3_2) = some r → AK X 46 ((K46 11110101110 1)) (Back X [] (.b r)) ⟨102, [(2, .b y3_2)], []⟩ := by
            intro y3_2 H
            obtain rfl := retC H
            exact ak_ret hf hX (av := .b y3_2) (by kernel_rfl) [] (sel_of_eq (by kernel_rfl)) (by decide) (by rw [h0]; rfl) (by kernel_rfl) (fun _ h => all_nil h) (.d (.v _))
          rw [eqT c12]
          refine goK hT 8 (K46 111101011100 5) ⟨102, [(1, .ptr 0 0 0 0), (41, .b ((a0.Pairs.length : Int) == 0))], [.box 30 (eC30 a0)]⟩ ?_
          by_cases c13 : (a0.Pairs.length : Int) = 0
          · replace H := iT c13 H
            rw [eqT c13]
            refine goK hT 2 (K46 111101011100 7) ⟨102, [(41, .b true), (43, .d (eG28 a0.Over))], [.box 30 (eC30 a0)]⟩ ?_
            refine ak_callP (avs := [.d (eG28 a0.Over)]) (dst := some 44) (k' := (K46 111101011100 8)) [41, 44] [] hP enters_63 (span_One.says a0.Over) (by kernel_rfl) (hands_none _) (.cons (pass_d _) .nil) (st' := ⟨102, [(41, .b true), (44, .b (span_One a0.Over))], [.box 30 (eC30 a0)]⟩) (by kernel_rfl) ?_
            refine goK hT 3 (K46 11110101110 1) ⟨102, [(2, .b (span_One a0.Over))], [.box 30 (eC30 a0)]⟩ ?_
            refine cutK [] ⟨102, [(2, .b (span_One a0.Over))], []⟩ h0 ?_
            exact Jj3 (span_One a0.Over) H
          · replace H := iF c13 H
            rw [eqF c13]
            refine goK hT 6 (K46 11110101110 1) ⟨102, [(2, .b false)], [.box 30 (eC30 a0)]⟩ ?_
            refine cutK [] ⟨102, [(2, .b false)], []⟩ h0 ?_
            exact Jj3 false H
        · replace H := iF c12 H
          rw [eqF c12]
          refine goK hT 6 (K46 11110101111 1) ⟨102, [(1, .ptr 0 0 0 0), (25, .i a0.Kind), (46, .b (a0.Kind == 3))], [.box 30 (eC30 a0)]⟩ ?_
          by_cases c14 : a0.Kind = 3
          · replace H := iT c14 H
            rw [eqT c14]
            refine goK hT 4 (K46 11110101111100 1) ⟨102, [(48, .d (eG30 a0))], [.box 30 (eC30 a0)]⟩ ?_
            obtain ⟨v3, h15, H⟩ := ibC H
            refine ak_callP (avs := [.d (eG30 a0), .i 1, .i 1]) (dst := some 49) (k' := (K46 11110101111100 2)) [49] [] hP enters_61 (mut_pairs.says a0 1 1 h15) (by kernel_rfl) (hands_none _) (.cons (pass_d _) (.cons (pass_d _) (.cons (pass_d _) .nil))) (st' := ⟨102, [(49, .b v3)], [.box 30 (eC30 a0)]⟩) (by kernel_rfl) ?_
            refine goK hT 2 (K46 1111010111110 1) ⟨102, [(2, .b v3)], [.box 30 (eC30 a0)]⟩ ?_
            obtain rfl := retC H
            exact ak_ret hf hX (av := .b v3) (by kernel_rfl) [] (sel_of_eq (by kernel_rfl)) (by decide) (by rw [h0]; rfl) (by kernel_rfl) (fun _ h => all_nil h) (.d (.v _))
          · replace H := iF c14 H
            rw [eqF c14]
            refine goK hT 6 (K46 1111010111111 1) ⟨102, [(1, .ptr 0 0 0 0), (25, .i a0.Kind), (50, .b (a0.Kind == 4))], [.box 30 (eC30 a0)]⟩ ?_
            by_cases c16 : a0.Kind = 4
            · replace H := iT c16 H
              rw [eqT c16]
              refine goK hT 4 (K46 1111010111111100 1) ⟨102, [(1, .ptr 0 0 0 0), (52, .d (eG30 a0))], [.box 30 (eC30 a0)]⟩ ?_
              obtain ⟨v4, h17, H⟩ := ibC H
              have Jj4 : ∀ (y4_2 : Bool), (mut_kind.j4 y4_2) = some r → AK X 46 ((K46 111101011111110 1)) (Back X [] (.b r)) ⟨102, [(2, .b y4_2)], []⟩ := by
                intro y4_2 H
                obtain rfl := retC H
                exact ak_ret hf hX (av := .b y4_2) (by kernel_rfl) [] (sel_of_eq (by kernel_rfl)) (by decide) (by rw [h0]; rfl) (by kernel_rfl) (fun _ h => all_nil h) (.d (.v _))
              refine ak_callP (avs := [.d (eG30 a0), .i 1, .i 1]) (dst := some 53) (k' := (K46 1111010111111100 2)) [1, 53] [] hP enters_61 (mut_pairs.says a0 1 1 h17) (by kernel_rfl) (hands_none _) (.cons (pass_d _) (.cons (pass_d _) (.cons (pass_d _) .nil))) (st' := ⟨102, [(1, .ptr 0 0 0 0), (53, .b v4)], [.box 30 (eC30 a0)]⟩) (by kernel_rfl) ?_
              refine goK hT 1 (K46 1111010111111100 3) ⟨102, [(1, .ptr 0 0 0 0), (54, .b v4)], [.box 30 (eC30 a0)]⟩ ?_
              by_cases c18 : v4 = true
              · replace H := iT c18 H
                rw [c18]
                refine goK hT 2 (K46 1111010111111100 5) ⟨102, [(1, .ptr 0 0 0 0), (54, .b true), (56, .i a0.Old)], [.box 30 (eC30 a0)]⟩ ?_
                refine ak_callP (avs := [.i a0.Old]) (dst := some 57) (k' := (K46 1111010111111100 6)) [1, 54, 57] [] hP enters_64 (mut_value.says a0.Old) (by kernel_rfl) (hands_none _) (.cons (pass_d _) .nil) (st' := ⟨102, [(1, .ptr 0 0 0 0), (54, .b true), (57, .b (mut_value a0.Old))], [.box 30 (eC30 a0)]⟩) (by kernel_rfl) ?_
                refine goK hT 1 (K46 1111010111111100 7) ⟨102, [(1, .ptr 0 0 0 0), (54, .b true), (58, .b (mut_value a0.Old))], [.box 30 (eC30 a0)]⟩ ?_
                by_cases c19 : (mut_value a0.Old) = true
                · replace H := iT c19 H
                  rw [c19]
                  refine goK hT 7 (K46 111101011111110 1) ⟨102, [(2, .b true)], [.box 30 (eC30 a0)]⟩ ?_
                  refine cutK [] ⟨102, [(2, .b true)], []⟩ h0 ?_
                  exact Jj4 true H
                · replace H := iF c19 H
                  rw [boF c19]
                  refine goK hT 7 (K46 111101011111110 1) ⟨102, [(2, .b (a0.Old == 1099511627777))], [.box 30 (eC30 a0)]⟩ ?_
                  refine cutK [] ⟨102, [(2, .b (a0.Old == 1099511627777))], []⟩ h0 ?_
                  exact Jj4 (a0.Old == 1099511627777) H
              · replace H := iF c18 H
                rw [boF c18]
                refine goK hT 11 (K46 111101011111110 1) ⟨102, [(2, .b false)], [.box 30 (eC30 a0)]⟩ ?_
                refine cutK [] ⟨102, [(2, .b false)], []⟩ h0 ?_
                exact Jj4 false H
            · replace H := iF c16 H
              rw [eqF c16]
              refine goK hT 6 (K46 111101011111111 1) ⟨102, [(1, .ptr 0 0 0 0), (64, .b (a0.Kind == 5))], [.box 30 (eC30 a0)]⟩ ?_
              by_cases c20 : a0.Kind = 5
              · replace H := iT c20 H
                rw [eqT c20]
                refine goK hT 2 (K46 11110101111111110 0) ⟨102, [(1, .ptr 0 0 0 0)], [.box 30 (eC30 a0)]⟩ ?_
                obtain ⟨v5, h21, H⟩ := ibC H
                have Jj5 : ∀ (y5_2 : Bool), (mut_kind.j5 y5_2) = some r → AK X 46 ((K46 11110101111111110 1)) (Back X [] (.b r)) ⟨102, [(2, .b y5_2)], []⟩ := by
                  intro y5_2 H
                  obtain rfl := retC H
                  exact ak_ret hf hX (av := .b y5_2) (by kernel_rfl) [] (sel_of_eq (by kernel_rfl)) (by decide) (by rw [h0]; rfl) (by kernel_rfl) (fun _ h => all_nil h) (.d (.v _))
                by_cases c22 : v5 = true
                · replace H := iT c22 H
                  obtain ⟨h23, H⟩ := iC H
                  obtain ⟨h24, H⟩ := iC H
                  by_cases c25 : ((a0.Pairs.getD 0 api_Pair.z).Key) = ((a0.Pairs.getD 1 api_Pair.z).Key)
                  · replace H := iT c25 H
                    refine drawK (hP ▸ mixed) 26 [1] [some (.d (eG30 a0)), some (.b true), some (.b true), some (.ptr 0 0 0 3), some (.d (eL70 true a0.Pairs)), some (.d (eP70 true a0.Pairs 0 0)), some (.d (eP70 true a0.Pairs 0 0)), some (.i ((a0.Pairs.getD 0 api_Pair.z).Key)), some (.ptr 0 0 0 3), some (.d (eL70 true a0.Pairs)), some (.d (eP70 true a0.Pairs 1 0)), some (.d (eP70 true a0.Pairs 1 0)), some (.i ((a0.Pairs.getD 1 api_Pair.z).Key)), some (.b false), some (.b false), some (.b false), some (.tup []), some (.tup []), some (.tup []), some (.tup []), some (.tup []), some (.tup []), some (.tup []), some (.tup []), some (.tup []), some (.tup [])] (opG (opG (opG (opG (opG (opG (opG (opG (opG (opG (opG (opG (opV (opG (opG (opS (opG (opG (opG (opG (opS (opG (opG (opG (opS (opG op0 hT) (fun R rest h => ak_callD (avs := [.d (eG30 a0), .i 2, .i 2]) (dst := some 67) hP enters_61 (by have q := mut_pairs.says a0 2 2 h21; rw [c22] at q; exact q) (by kernel_rfl) (.cons (pass_d _) (.cons (pass_d _) (.cons (pass_d _) .nil))) (by kernel_rfl) h)) hT) hT) hT) (fun R rest h => ak_idx0 hT (i := 0) (n := (a0.Pairs.length : Int)) h23.1 h23.2 (by kernel_rfl) h)) hT) hT) hT) hT) (fun R rest h => ak_idx0 hT (i := 1) (n := (a0.Pairs.length : Int)) h24.1 h24.2 (by kernel_rfl) h)) hT) hT) hT 79 (.b (((a0.Pairs.getD 0 api_Pair.z).Key) != ((a0.Pairs.getD 1 api_Pair.z).Key))) (.b false) (by rw [neF c25] <;> rfl)) hT) hT) hT) hT) hT) hT) hT) hT) hT) hT) hT) hT) ?_
                    refine goK hT 12 (K46 11110101111111110 1) ⟨102, [(2, .b false)], [.box 30 (eC30 a0)]⟩ ?_
                    refine cutK [] ⟨102, [(2, .b false)], []⟩ h0 ?_
                    exact Jj5 false H
                  · replace H := iF c25 H
                    refine drawK (hP ▸ mixed) 26 [1] [some (.d (eG30 a0)), some (.b true), some (.b true), some (.ptr 0 0 0 3), some (.d (eL70 true a0.Pairs)), some (.d (eP70 true a0.Pairs 0 0)), some (.d (eP70 true a0.Pairs 0 0)), some (.i ((a0.Pairs.getD 0 api_Pair.z).Key)), some (.ptr 0 0 0 3), some (.d (eL70 true a0.Pairs)), some (.d (eP70 true a0.Pairs 1 0)), some (.d (eP70 true a0.Pairs 1 0)), some (.i ((a0.Pairs.getD 1 api_Pair.z).Key)), some (.b true), some (.b true), some (.b true), some (.ptr 0 0 0 3), some (.d (eL70 true a0.Pairs)), some (.d (eP70 true a0.Pairs 0 0)), some (.d (eP70 true a0.Pairs 0 1)), some (.i ((a0.Pairs.getD 0 api_Pair.z).Val)), some (.ptr 0 0 0 3), some (.d (eL70 true a0.Pairs)), some (.d (eP70 true a0.Pairs 1 0)), some (.d (eP70 true a0.Pairs 1 1)), some (.i ((a0.Pairs.getD 1 api_Pair.z).Val))] (opG (opG (opS (opG (opG (opG (opG (opS (opG (opG (opG (opG (opV (opG (opG (opS (opG (opG (opG (opG (opS (opG (opG (opG (opS (opG op0 hT) (fun R rest h => ak_callD (avs := [.d (eG30 a0), .i 2, .i 2]) (dst := some 67) hP enters_61 (by have q := mut_pairs.says a0 2 2 h21; rw [c22] at q; exact q) (by kernel_rfl) (.cons (pass_d _) (.cons (pass_d _) (.cons (pass_d _) .nil))) (by kernel_rfl) h)) hT) hT) hT) (fun R rest h => ak_idx0 hT (i := 0) (n := (a0.Pairs.length : Int)) h23.1 h23.2 (by kernel_rfl) h)) hT) hT) hT) hT) (fun R rest h => ak_idx0 hT (i := 1) (n := (a0.Pairs.length : Int)) h24.1 h24.2 (by kernel_rfl) h)) hT) hT) hT 79 (.b (((a0.Pairs.getD 0 api_Pair.z).Key) != ((a0.Pairs.getD 1 api_Pair.z).Key))) (.b true) (by rw [neT c25] <;> rfl)) hT) hT) hT) hT) (fun R rest h => ak_idx0 hT (i := 0) (n := (a0.Pairs.length : Int)) h23.1 h23.2 (by kernel_rfl) h)) hT) hT) hT) hT) (fun R rest h => ak_idx0 hT (i := 1) (n := (a0.Pairs.length : Int)) h24.1 h24.2 (by kernel_rfl) h)) hT) hT) ?_
                    refine goK hT 3 (K46 111101011111111100 29) ⟨102, [(1, .ptr 0 0 0 0), (94, .b (((a0.Pairs.getD 0 api_Pair.z).Val) == ((a0.Pairs.getD 1 api_Pair.z).Val)))], [.box 30 (eC30 a0)]⟩ ?_
                    by_cases c26 : ((a0.Pairs.getD 0 api_Pair.z).Val) = ((a0.Pairs.getD 1 api_Pair.z).Val)
                    · replace H := iT c26 H
                      rw [eqT c26]
                      refine goK hT 2 (K46 111101011111111100 31) ⟨102, [(94, .b true), (96, .d (eL70 true a0.Pairs))], [.box 30 (eC30 a0)]⟩ ?_
                      refine ak_idx hT [94, 97] (i := 0) (n := (a0.Pairs.length : Int)) h23.1 h23.2 (k' := (K46 111101011111111100 32)) (st' := ⟨102, [(94, .b true), (97, .d (eP70 true a0.Pairs 0 0))], [.box 30 (eC30 a0)]⟩) (by kernel_rfl) ?_
                      refine goK hT 6 (K46 11110101111111110 1) ⟨102, [(2, .b (decide (((a0.Pairs.getD 0 api_Pair.z).Val) ≥ 0)))], [.box 30 (eC30 a0)]⟩ ?_
                      refine cutK [] ⟨102, [(2, .b (decide (((a0.Pairs.getD 0 api_Pair.z).Val) ≥ 0)))], []⟩ h0 ?_
                      exact Jj5 (decide (((a0.Pairs.getD 0 api_Pair.z).Val) ≥ 0)) H
                    · replace H := iF c26 H
                      rw [eqF c26]
                      refine goK hT 9 (K46 11110101111111110 1) ⟨102, [(2, .b false)], [.box 30 (eC30 a0)]⟩ ?_
                      refine cutK [] ⟨102, [(2, .b false)], []⟩ h0 ?_
                      exact Jj5 false H
                · replace H := iF c22 H
                  refine drawK (hP ▸ mixed) 26 [1] [some (.d (eG30 a0)), some (.b false), some (.b false), some (.tup []), some (.tup []), some (.tup []), some (.tup []), some (.tup []), some (.tup []), some (.tup []), some (.tup []), some (.tup []), some (.tup []), some (.tup []), some (.b false), some (.b false), some (.tup []), some (.tup []), some (.tup []), some (.tup []), some (.tup []), some (.tup []), some (.tup []), some (.tup []), some (.tup []), some (.tup [])] (opG (opG (opG (opG (opG (opG (opG (opG (opG (opG (opG (opG (opG (opG (opG (opG (opG (opG (opG (opG (opG (opG (opG (opG (opS (opG op0 hT) (fun R rest h => ak_callD (avs := [.d (eG30 a0), .i 2, .i 2]) (dst := some 67) hP enters_61 (by have q := mut_pairs.says a0 2 2 h21; rw [boF c22] at q; exact q) (by kernel_rfl) (.cons (pass_d _) (.cons (pass_d _) (.cons (pass_d _) .nil))) (by kernel_rfl) h)) hT) hT) hT) hT) hT) hT) hT) hT) hT) hT) hT) hT) hT) hT) hT) hT) hT) hT) hT) hT) hT) hT) hT) hT) ?_
                  refine goK hT 12 (K46 11110101111111110 1) ⟨102, [(2, .b false)], [.box 30 (eC30 a0)]⟩ ?_
                  refine cutK [] ⟨102, [(2, .b false)], []⟩ h0 ?_
                  exact Jj5 false H
              · replace H := iF c20 H
                rw [eqF c20]
                refine goK hT 3 (K46 1111 1) ⟨102, [], [.box 30 (eC30 a0)]⟩ ?_
                refine goK hT 4 (K46 11111 1) ⟨102, [(2, .b false)], [.box 30 (eC30 a0)]⟩ ?_
                obtain rfl := retC H
                exact ak_ret hf hX (av := .b false) (by kernel_rfl) [] (sel_of_eq (by kernel_rfl)) (by decide) (by rw [h0]; rfl) (by kernel_rfl) (fun _ h => all_nil h) (.d (.v _))
  refine goK hT 18 (K46 11100 4) ⟨102, [(1, .ptr 0 0 0 0), (3, .ptr 1 0 0 0), (8, .b (a0.Kind != 2))], [.box 30 (eC30 a0), .box 28 [.i 0, .i 0]]⟩ ?_
  by_cases c1 : a0.Kind = 2
  · replace H := iT c1 H
    rw [neF c1]
    refine goK hT 10 (K46 11100 14) ⟨102, [(1, .ptr 0 0 0 0), (14, .b false), (18, .b (a0.Kind != 4))], [.box 30 (eC30 a0), .box 28 [.i 0, .i 0]]⟩ ?_
    by_cases c2 : a0.Kind = 4
    · replace H := iT c2 H
      rw [neF c2]
      refine goK hT 6 (K46 1110 1) ⟨102, [(1, .ptr 0 0 0 0), (23, .b false)], [.box 30 (eC30 a0), .box 28 [.i 0, .i 0]]⟩ ?_
      refine cutK [0] ⟨102, [(1, .ptr 0 0 0 0), (23, .b false)], [.box 30 (eC30 a0)]⟩ h0 ?_
      exact Jj1 false H
    · replace H := iF c2 H
      rw [neT c2]
      refine goK hT 6 (K46 1110 1) ⟨102, [(1, .ptr 0 0 0 0), (23, .b (a0.Old != 0))], [.box 30 (eC30 a0), .box 28 [.i 0, .i 0]]⟩ ?_
      refine cutK [0] ⟨102, [(1, .ptr 0 0 0 0), (23, .b (a0.Old != 0))], [.box 30 (eC30 a0)]⟩ h0 ?_
      exact Jj1 (a0.Old != 0) H
  · replace H := iF c1 H
    rw [neT c1]
    refine goK hT 6 (K46 11100 10) ⟨102, [(1, .ptr 0 0 0 0), (14, .b (!((a0.Over.Lo == 0) && (a0.Over.Hi == 0))))], [.box 30 (eC30 a0), .box 28 [.i 0, .i 0]]⟩ ?_
    by_cases c3 : a0.Over.Lo = 0
    · replace H := iT c3 H
      rw [eqT c3]
      by_cases c4 : a0.Over.Hi = 0
      · replace H := iT c4 H
        rw [eqT c4]
        refine goK hT 4 (K46 11100 14) ⟨102, [(1, .ptr 0 0 0 0), (14, .b false), (18, .b (a0.Kind != 4))], [.box 30 (eC30 a0), .box 28 [.i 0, .i 0]]⟩ ?_
        by_cases c5 : a0.Kind = 4
        · replace H := iT c5 H
          rw [neF c5]
          refine goK hT 6 (K46 1110 1) ⟨102, [(1, .ptr 0 0 0 0), (23, .b false)], [.box 30 (eC30 a0), .box 28 [.i 0, .i 0]]⟩ ?_
          refine cutK [0] ⟨102, [(1, .ptr 0 0 0 0), (23, .b false)], [.box 30 (eC30 a0)]⟩ h0 ?_
          exact Jj1 false H
        · replace H := iF c5 H
          rw [neT c5]
          refine goK hT 6 (K46 1110 1) ⟨102, [(1, .ptr 0 0 0 0), (23, .b (a0.Old != 0))], [.box 30 (eC30 a0), .box 28 [.i 0, .i 0]]⟩ ?_
          refine cutK [0] ⟨102, [(1, .ptr 0 0 0 0), (23, .b (a0.Old != 0))], [.box 30 (eC30 a0)]⟩ h0 ?_
          exact Jj1 (a0.Old != 0) H
      · replace H := iF c4 H
        rw [eqF c4]
        refine goK hT 10 (K46 1110 1) ⟨102, [(1, .ptr 0 0 0 0), (23, .b true)], [.box 30 (eC30 a0), .box 28 [.i 0, .i 0]]⟩ ?_
        refine cutK [0] ⟨102, [(1, .ptr 0 0 0 0), (23, .b true)], [.box 30 (eC30 a0)]⟩ h0 ?_
        exact Jj1 true H
    · replace H := iF c3 H
      rw [eqF c3]
      by_cases c6 : a0.Over.Hi = 0
      · replace H := iT c6 H
        rw [eqT c6]
        refine goK hT 10 (K46 1110 1) ⟨102, [(1, .ptr 0 0 0 0), (23, .b true)], [.box 30 (eC30 a0), .box 28 [.i 0, .i 0]]⟩ ?_
        refine cutK [0] ⟨102, [(1, .ptr 0 0 0 0), (23, .b true)], [.box 30 (eC30 a0)]⟩ h0 ?_
        exact Jj1 true H
      · replace H := iF c6 H
        rw [eqF c6]
        refine goK hT 10 (K46 1110 1) ⟨102, [(1, .ptr 0 0 0 0), (23, .b true)], [.box 30 (eC30 a0), .box 28 [.i 0, .i 0]]⟩ ?_
        refine cutK [0] ⟨102, [(1, .ptr 0 0 0 0), (23, .b true)], [.box 30 (eC30 a0)]⟩ h0 ?_
        exact Jj1 true H

theorem mut_Check.says (a0 : api_Mut) {r : Bool} (H : mut_Check a0 = some r) : Says Try.prog 25 [] [.d (eG30 a0)] [] (.b r) := by
  refine says_of Try.func25 rfl (nt := 25) rfl (Nat.le_of_ble_eq_true rfl) fun X hP h0 hX => ?_
  have hT : TabOk X.P T := hP ▸ tok
  have hf : X.P.funcs[25]? = some Try.f25 := hP ▸ Try.func25
  have Jj1 : ∀ (y1_2 : Bool), (mut_Check.j1 y1_2) = some r → AK X 25 ((K25 11 1)) (Back X [] (.b r)) ⟨25, [(2, .b y1_2)], []⟩ := by
    intro y1_2 H
    obtain rfl := retC H
    exact ak_ret hf hX (av := .b y1_2) (by kernel_rfl) [] (sel_of_eq (by kernel_rfl)) (by decide) (by rw [h0]; rfl) (by kernel_rfl) (fun _ h => all_nil h) (.d (.v _))
  refine goK hT 11 (K25 110 4) ⟨25, [(1, .ptr 0 0 0 0), (6, .b (decide (a0.Client ≥ 1)))], [.box 30 (eC30 a0)]⟩ ?_
  by_cases c1 : a0.Client ≥ 1
  · replace H := iT c1 H
    rw [decide_eq_true c1]
    refine goK hT 5 (K25 110 9) ⟨25, [(1, .ptr 0 0 0 0), (11, .b (decide (a0.Client ≤ 1048576)))], [.box 30 (eC30 a0)]⟩ ?_
    by_cases c2 : a0.Client ≤ 1048576
    · replace H := iT c2 H
      rw [decide_eq_true c2]
      refine goK hT 5 (K25 110 14) ⟨25, [(1, .ptr 0 0 0 0), (16, .b (decide (a0.Seq ≥ 1)))], [.box 30 (eC30 a0)]⟩ ?_
      by_cases c3 : a0.Seq ≥ 1
      · replace H := iT c3 H
        rw [decide_eq_true c3]
        refine goK hT 5 (K25 110 19) ⟨25, [(1, .ptr 0 0 0 0), (21, .b (decide (a0.Seq ≤ 1073741824)))], [.box 30 (eC30 a0)]⟩ ?_
        by_cases c4 : a0.Seq ≤ 1073741824
        · replace H := iT c4 H
          rw [decide_eq_true c4]
          refine goK hT 1 (K25 110 20) ⟨25, [(21, .b true), (22, .d (eG30 a0))], [.box 30 (eC30 a0)]⟩ ?_
          obtain ⟨v1, h5, H⟩ := ibC H
          refine ak_callP (avs := [.d (eG30 a0)]) (dst := some 23) (k' := (K25 110 21)) [21, 23] [] hP enters_46 (mut_kind.says a0 h5) (by kernel_rfl) (hands_none _) (.cons (pass_d _) .nil) (st' := ⟨25, [(21, .b true), (23, .b v1)], [.box 30 (eC30 a0)]⟩) (by kernel_rfl) ?_
          refine goK hT 3 (K25 11 1) ⟨25, [(2, .b v1)], [.box 30 (eC30 a0)]⟩ ?_
          refine cutK [] ⟨25, [(2, .b v1)], []⟩ h0 ?_
          exact Jj1 v1 H
        · replace H := iF c4 H
          rw [decide_eq_false c4]
          refine goK hT 5 (K25 11 1) ⟨25, [(2, .b false)], [.box 30 (eC30 a0)]⟩ ?_
          refine cutK [] ⟨25, [(2, .b false)], []⟩ h0 ?_
          exact Jj1 false H
      · replace H := iF c3 H
        rw [decide_eq_false c3]
        refine goK hT 10 (K25 11 1) ⟨25, [(2, .b false)], [.box 30 (eC30 a0)]⟩ ?_
        refine cutK [] ⟨25, [(2, .b false)], []⟩ h0 ?_
        exact Jj1 false H
    · replace H := iF c2 H
      rw [decide_eq_false c2]
      refine goK hT 15 (K25 11 1) ⟨25, [(2, .b false)], [.box 30 (eC30 a0)]⟩ ?_
      refine cutK [] ⟨25, [(2, .b false)], []⟩ h0 ?_
      exact Jj1 false H
  · replace H := iF c1 H
    rw [decide_eq_false c1]
    refine goK hT 20 (K25 11 1) ⟨25, [(2, .b false)], [.box 30 (eC30 a0)]⟩ ?_
    refine cutK [] ⟨25, [(2, .b false)], []⟩ h0 ?_
    exact Jj1 false H

theorem hold_item_stamp_l0.says (a0 : hold_item) : Says Try.prog 44 [] [.d (.rop false 1 (fun _ => [.i a0.h.M.Client, .i a0.h.M.Seq, .i a0.h.M.Kind, eL70 true a0.h.M.Pairs, .i a0.h.M.Over.Lo, .i a0.h.M.Over.Hi, .i a0.h.M.Old, .i a0.h.Time, .b a0.h.Final, .i a0.at_]) 0 0)] [] (.d (eG37 (hold_item_stamp_l0 a0))) := by
  obtain ⟨r, H⟩ : ∃ r, hold_item_stamp_l0 a0 = r := ⟨_, rfl⟩
  rw [H]
  refine says_of Try.func44 rfl (nt := 14) rfl (Nat.le_of_ble_eq_true rfl) fun X hP h0 hX => ?_
  have hT : TabOk X.P T := hP ▸ tok
  have hf : X.P.funcs[44]? = some Try.f44 := hP ▸ Try.func44
  refine goK hT 5 (K44 11 0) ⟨14, [(0, .d (.rop false 1 (fun _ => [.i a0.h.M.Client, .i a0.h.M.Seq, .i a0.h.M.Kind, eL70 true a0.h.M.Pairs, .i a0.h.M.Over.Lo, .i a0.h.M.Over.Hi, .i a0.h.M.Old, .i a0.h.Time, .b a0.h.Final, .i a0.at_]) 0 0)), (2, .ptr 0 0 0 0)], [.box 37 [.i 0, .i 0, .i 0]]⟩ ?_
  refine drawK (hP ▸ mixed) 10 [0, 2] [some (.d (.rop false 1 (fun _ => [.i a0.h.M.Client, .i a0.h.M.Seq, .i a0.h.M.Kind, eL70 true a0.h.M.Pairs, .i a0.h.M.Over.Lo, .i a0.h.M.Over.Hi, .i a0.h.M.Old, .i a0.h.Time, .b a0.h.Final, .i a0.at_]) 0 0)), some (.d (.rop false 1 (fun _ => [.i a0.h.M.Client, .i a0.h.M.Seq, .i a0.h.M.Kind, eL70 true a0.h.M.Pairs, .i a0.h.M.Over.Lo, .i a0.h.M.Over.Hi, .i a0.h.M.Old, .i a0.h.Time, .b a0.h.Final, .i a0.at_]) 0 0)), some (.d (.rop false 1 (fun _ => [.i a0.h.M.Client, .i a0.h.M.Seq, .i a0.h.M.Kind, eL70 true a0.h.M.Pairs, .i a0.h.M.Over.Lo, .i a0.h.M.Over.Hi, .i a0.h.M.Old, .i a0.h.Time, .b a0.h.Final, .i a0.at_]) 0 0)), some (.d (.rop false 1 (fun _ => [.i a0.h.M.Client, .i a0.h.M.Seq, .i a0.h.M.Kind, eL70 true a0.h.M.Pairs, .i a0.h.M.Over.Lo, .i a0.h.M.Over.Hi, .i a0.h.M.Old, .i a0.h.Time, .b a0.h.Final, .i a0.at_]) 0 7)), some (.i a0.h.Time), some (.d (.rop false 1 (fun _ => [.i a0.h.M.Client, .i a0.h.M.Seq, .i a0.h.M.Kind, eL70 true a0.h.M.Pairs, .i a0.h.M.Over.Lo, .i a0.h.M.Over.Hi, .i a0.h.M.Old, .i a0.h.Time, .b a0.h.Final, .i a0.at_]) 0 0)), some (.d (.rop false 1 (fun _ => [.i a0.h.M.Client, .i a0.h.M.Seq, .i a0.h.M.Kind, eL70 true a0.h.M.Pairs, .i a0.h.M.Over.Lo, .i a0.h.M.Over.Hi, .i a0.h.M.Old, .i a0.h.Time, .b a0.h.Final, .i a0.at_]) 0 0)), some (.d (.rop false 1 (fun _ => [.i a0.h.M.Client, .i a0.h.M.Seq, .i a0.h.M.Kind, eL70 true a0.h.M.Pairs, .i a0.h.M.Over.Lo, .i a0.h.M.Over.Hi, .i a0.h.M.Old, .i a0.h.Time, .b a0.h.Final, .i a0.at_]) 0 0)), some (.d (.rop false 1 (fun _ => [.i a0.h.M.Client, .i a0.h.M.Seq, .i a0.h.M.Kind, eL70 true a0.h.M.Pairs, .i a0.h.M.Over.Lo, .i a0.h.M.Over.Hi, .i a0.h.M.Old, .i a0.h.Time, .b a0.h.Final, .i a0.at_]) 0 0)), some (.d (eG30 a0.h.M))] (opG (opG (opG (opG (opG (opG (opG (opG (opG (opG op0 hT) hT) hT) hT) hT) hT) hT) hT) hT) hT) ?_
  refine goK hT 0 (K44 110 10) ⟨14, [(2, .ptr 0 0 0 0), (7, .i a0.h.Time), (12, .d (eG30 a0.h.M))], [.box 37 [.i 0, .i 0, .i 0]]⟩ ?_
  refine ak_callP (avs := [.i a0.h.Time, .d (eG30 a0.h.M)]) (dst := some 13) (k' := (K44 110 11)) [2, 13] [] hP enters_16 (mut_Stamp.says a0.h.Time a0.h.M) (by kernel_rfl) (hands_none _) (.cons (pass_d _) (.cons (pass_d _) .nil)) (st' := ⟨14, [(2, .ptr 0 0 0 0), (13, .d (eG37 (mut_Stamp a0.h.Time a0.h.M)))], [.box 37 [.i 0, .i 0, .i 0]]⟩) (by kernel_rfl) ?_
  obtain ⟨v1, h1, H⟩ := idC H
  rw [← h1]
  refine goK hT 2 (K44 11 1) ⟨14, [(2, .ptr 0 0 0 0)], [.box 37 (eC37 v1)]⟩ ?_
  obtain rfl := H
  exact ak_retM hT hf hX (av := .d (eG37 v1)) (by kernel_rfl) [] (sel_of_eq (by kernel_rfl)) (by decide) (by rw [h0]; rfl) (by kernel_rfl) (fun _ h => all_nil h) (.d (.agg (api_Stamp.nl _)))

theorem hold_by_1_l0_l1.says (a0 : hold_item) (a1 : hold_item) {r : Int} (H : hold_by_1_l0_l1 a0 a1 = some r) : Says Try.prog 60 [] [.d (.rop false 1 (fun _ => [.i a0.h.M.Client, .i a0.h.M.Seq, .i a0.h.M.Kind, eL70 true a0.h.M.Pairs, .i a0.h.M.Over.Lo, .i a0.h.M.Over.Hi, .i a0.h.M.Old, .i a0.h.Time, .b a0.h.Final, .i a0.at_]) 0 0), .d (.rop false 1 (fun _ => [.i a1.h.M.Client, .i a1.h.M.Seq, .i a1.h.M.Kind, eL70 true a1.h.M.Pairs, .i a1.h.M.Over.Lo, .i a1.h.M.Over.Hi, .i a1.h.M.Old, .i a1.h.Time, .b a1.h.Final, .i a1.at_]) 0 0), .d (.rop false 1 (fun _ => [.fn 44 []]) 0 0)] [] (.i r) := by
  refine says_of Try.func60 rfl (nt := 13) rfl (Nat.le_of_ble_eq_true rfl) fun X hP h0 hX => ?_
  have hT : TabOk X.P T := hP ▸ tok
  have hf : X.P.funcs[60]? = some Try.f60 := hP ▸ Try.func60
  refine goK hT 5 (K60 11 0) ⟨13, [(0, .d (.rop false 1 (fun _ => [.i a0.h.M.Client, .i a0.h.M.Seq, .i a0.h.M.Kind, eL70 true a0.h.M.Pairs, .i a0.h.M.Over.Lo, .i a0.h.M.Over.Hi, .i a0.h.M.Old, .i a0.h.Time, .b a0.h.Final, .i a0.at_]) 0 0)), (1, .d (.rop false 1 (fun _ => [.i a1.h.M.Client, .i a1.h.M.Seq, .i a1.h.M.Kind, eL70 true a1.h.M.Pairs, .i a1.h.M.Over.Lo, .i a1.h.M.Over.Hi, .i a1.h.M.Old, .i a1.h.Time, .b a1.h.Final, .i a1.at_]) 0 0)), (2, .d (.rop false 1 (fun _ => [.fn 44 []]) 0 0))], []⟩ ?_
  refine drawK (hP ▸ mixed) 5 [0, 1, 2] [some (.d (.fn 44 [])), some (.d (.rop false 1 (fun _ => [.i a0.h.M.Client, .i a0.h.M.Seq, .i a0.h.M.Kind, eL70 true a0.h.M.Pairs, .i a0.h.M.Over.Lo, .i a0.h.M.Over.Hi, .i a0.h.M.Old, .i a0.h.Time, .b a0.h.Final, .i a0.at_]) 0 0)), some (.d (eG37 (hold_item_stamp_l0 a0))), some (.d (.fn 44 [])), some (.d (.rop false 1 (fun _ => [.i a1.h.M.Client, .i a1.h.M.Seq, .i a1.h.M.Kind, eL70 true a1.h.M.Pairs, .i a1.h.M.Over.Lo, .i a1.h.M.Over.Hi, .i a1.h.M.Old, .i a1.h.Time, .b a1.h.Final, .i a1.at_]) 0 0))] (opG (opG (opS (opG (opG op0 hT) hT) (fun R rest h => ak_callD (avs := [.d (.rop false 1 (fun _ => [.i a0.h.M.Client, .i a0.h.M.Seq, .i a0.h.M.Kind, eL70 true a0.h.M.Pairs, .i a0.h.M.Over.Lo, .i a0.h.M.Over.Hi, .i a0.h.M.Old, .i a0.h.Time, .b a0.h.Final, .i a0.at_]) 0 0)]) (dst := some 8) hP enters_44 (hold_item_stamp_l0.says a0) (by kernel_rfl) (.cons (pass_d _) .nil) (by kernel_rfl) h)) hT) hT) ?_
  refine goK hT 0 (K60 110 5) ⟨13, [(8, .d (eG37 (hold_item_stamp_l0 a0))), (9, .d (.fn 44 [])), (10, .d (.rop false 1 (fun _ => [.i a1.h.M.Client, .i a1.h.M.Seq, .i a1.h.M.Kind, eL70 true a1.h.M.Pairs, .i a1.h.M.Over.Lo, .i a1.h.M.Over.Hi, .i a1.h.M.Old, .i a1.h.Time, .b a1.h.Final, .i a1.at_]) 0 0))], []⟩ ?_
  refine ak_callP (avs := [.d (.rop false 1 (fun _ => [.i a1.h.M.Client, .i a1.h.M.Seq, .i a1.h.M.Kind, eL70 true a1.h.M.Pairs, .i a1.h.M.Over.Lo, .i a1.h.M.Over.Hi, .i a1.h.M.Old, .i a1.h.Time, .b a1.h.Final, .i a1.at_]) 0 0)]) (dst := some 11) (k' := (K60 110 6)) [8, 11] [] hP enters_44 (hold_item_stamp_l0.says a1) (by kernel_rfl) (hands_none _) (.cons (pass_d _) .nil) (st' := ⟨13, [(8, .d (eG37 (hold_item_stamp_l0 a0))), (11, .d (eG37 (hold_item_stamp_l0 a1)))], []⟩) (by kernel_rfl) ?_
  obtain ⟨v1, h1, H⟩ := idC H
  rw [← h1]
  obtain ⟨v2, h2, H⟩ := ibC H
  refine ak_callP (avs := [.d (eG37 (hold_item_stamp_l0 a0)), .d (eG37 v1)]) (dst := some 12) (k' := (K60 110 7)) [12] [] hP enters_17 (mut_Compare.says (hold_item_stamp_l0 a0) v1 h2) (by kernel_rfl) (hands_none _) (.cons (pass_d _) (.cons (pass_d _) .nil)) (st' := ⟨13, [(12, .i v2)], []⟩) (by kernel_rfl) ?_
  refine goK hT 2 (K60 11 1) ⟨13, [(5, .i v2)], []⟩ ?_
  obtain rfl := retC H
  exact ak_ret hf hX (av := .i v2) (by kernel_rfl) [] (sel_of_eq (by kernel_rfl)) (by decide) (by rw [h0]; rfl) (by kernel_rfl) (fun _ h => all_nil h) (.d (.v _))
end Go.SyP
