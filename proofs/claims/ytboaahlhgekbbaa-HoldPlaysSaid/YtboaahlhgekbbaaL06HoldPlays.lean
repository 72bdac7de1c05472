/- The row of the law HoldPlays: from what the code says and the plain law to the statement. -/
import Derived.Test.YtboaahlhgekbbaaRows
import Derived.Test.YtboaahlhgekbbaaG06LCp0
import Derived.Test.YtboaahlhgekbbaaP06G
import Derived.Test.YtboaahlhgekbbaaSyRA
import Derived.WalkKit
import Derived.ProofKit
import Derived.OpenShut
import Derived.ShutString
import Derived.ChangeOld
import Derived.Below
import Derived.SizedLaws
import Derived.Carry
set_option linter.unusedVariables false
namespace Go.Proofs.Ytboaahlhgekbbaa.holdPlays
open Go.ChangeShapes Go.WideShapes Go.ChangeAt Go.RowKit Go.Sy Go.SyP
open Go.ChangeMaps (open_string shut_string)

theorem own : ownKnob Try.prog.godebug = none := by kernel_rfl
theorem laidOut : laidOutB Try.prog = true := by kernel_rfl
def api_Pair.wf70 (x : api_Pair) : Prop := (fun n => (Lit.int .i64 n).wf = true) x.Key ∧ (fun n => (Lit.int .i64 n).wf = true) x.Val
theorem api_Pair.rd70 : RD Try.prog 70 api_Pair.e api_Pair.wf70 :=
  rd_struct (e' := api_Pair.e) (wf' := api_Pair.wf70) Try.underlying70 (by kernel_rfl) (rf_cons (off := 0) (n := 1) (rd_int Try.underlying3) rfl (by kernel_rfl) (rf_cons (off := 1) (n := 1) (rd_int Try.underlying3) rfl (by kernel_rfl) (rf_nil 2))) (fun p => ⟨p.1, p.2.1⟩) (by intro _; rfl) (by intro p h; exact ⟨h.1, h.2.1⟩)
def api_Span.wf28 (x : api_Span) : Prop := (fun n => (Lit.int .i64 n).wf = true) x.Lo ∧ (fun n => (Lit.int .i64 n).wf = true) x.Hi
theorem api_Span.rd28 : RD Try.prog 28 api_Span.e api_Span.wf28 :=
  rd_struct (e' := api_Span.e) (wf' := api_Span.wf28) Try.underlying28 (by kernel_rfl) (rf_cons (off := 0) (n := 1) (rd_int Try.underlying3) rfl (by kernel_rfl) (rf_cons (off := 1) (n := 1) (rd_int Try.underlying3) rfl (by kernel_rfl) (rf_nil 2))) (fun p => ⟨p.1, p.2.1⟩) (by intro _; rfl) (by intro p h; exact ⟨h.1, h.2.1⟩)
def api_Mut.wf30 (x : api_Mut) : Prop := (fun n => (Lit.int .i64 n).wf = true) x.Client ∧ (fun n => (Lit.int .i64 n).wf = true) x.Seq ∧ (fun n => (Lit.int .i64 n).wf = true) x.Kind ∧ (fun xs => xs.length ≤ maxLen ∧ ∀ x ∈ xs, (api_Pair.wf70) x) x.Pairs ∧ (api_Span.wf28) x.Over ∧ (fun n => (Lit.int .i64 n).wf = true) x.Old
theorem api_Mut.rd30 : RD Try.prog 30 api_Mut.e api_Mut.wf30 :=
  rd_struct (e' := api_Mut.e) (wf' := api_Mut.wf30) Try.underlying30 (by kernel_rfl) (rf_cons (off := 0) (n := 1) (rd_int Try.underlying3) rfl (by kernel_rfl) (rf_cons (off := 1) (n := 1) (rd_int Try.underlying3) rfl (by kernel_rfl) (rf_cons (off := 2) (n := 1) (rd_int Try.underlying3) rfl (by kernel_rfl) (rf_cons (off := 3) (n := 1) (rd_slice (k := 2) api_Pair.z Try.underlying26 (by kernel_rfl) (by decide) api_Pair.rd70) rfl (by kernel_rfl) (rf_cons (off := 4) (n := 2) api_Span.rd28 rfl (by kernel_rfl) (rf_cons (off := 6) (n := 1) (rd_int Try.underlying3) rfl (by kernel_rfl) (rf_nil 7))))))) (fun p => ⟨p.1, p.2.1, p.2.2.1, p.2.2.2.1, p.2.2.2.2.1, p.2.2.2.2.2.1⟩) (by intro _; rfl) (by intro p h; exact ⟨h.1, h.2.1, h.2.2.1, h.2.2.2.1, h.2.2.2.2.1, h.2.2.2.2.2.1⟩)
def api_Held.wf32 (x : api_Held) : Prop := (api_Mut.wf30) x.M ∧ (fun n => (Lit.int .i64 n).wf = true) x.Time ∧ (fun _ => True) x.Final
theorem api_Held.rd32 : RD Try.prog 32 api_Held.e api_Held.wf32 :=
  rd_struct (e' := api_Held.e) (wf' := api_Held.wf32) Try.underlying32 (by kernel_rfl) (rf_cons (off := 0) (n := 7) api_Mut.rd30 rfl (by kernel_rfl) (rf_cons (off := 7) (n := 1) (rd_int Try.underlying3) rfl (by kernel_rfl) (rf_cons (off := 8) (n := 1) (rd_bool Try.underlying4) rfl (by kernel_rfl) (rf_nil 9)))) (fun p => ⟨p.1, p.2.1, p.2.2.1⟩) (by intro _; rfl) (by intro p h; exact ⟨h.1, h.2.1, h.2.2.1⟩)
def splicelaw06_Act.wf76 (x : splicelaw06_Act) : Prop := (fun n => (Lit.int .i64 n).wf = true) x.Kind ∧ (api_Held.wf32) x.H
theorem splicelaw06_Act.rd76 : RD Try.prog 76 splicelaw06_Act.e splicelaw06_Act.wf76 :=
  rd_struct (e' := splicelaw06_Act.e) (wf' := splicelaw06_Act.wf76) Try.underlying76 (by kernel_rfl) (rf_cons (off := 0) (n := 1) (rd_int Try.underlying3) rfl (by kernel_rfl) (rf_cons (off := 1) (n := 9) api_Held.rd32 rfl (by kernel_rfl) (rf_nil 10))) (fun p => ⟨p.1, p.2.1⟩) (by intro _; rfl) (by intro p h; exact ⟨h.1, h.2.1⟩)
theorem said (a0 : List splicelaw06_Act) (a1 : Int) (w0 : (fun xs => xs.length ≤ maxLen ∧ ∀ x ∈ xs, (splicelaw06_Act.wf76) x) a0) (w1 : (fun n => (Lit.int .i64 n).wf = true) a1) : Says Try.prog 8 [] [.d (.sl true a0.length (vec splicelaw06_Act.e splicelaw06_Act.z a0)), .d (.v (.int .i64 a1))] [] (.d (.v (.bool true))) := by
  exact splicelaw06_HoldPlays.says a0 a1 (splicelaw06_HoldPlays_true a0 a1 w0 w1)

set_option maxRecDepth 100000 in
theorem lifted (os : Os) (started : os.Started) (H : Type) (enc : TypeId × Value → H) :
    ReturnsInHanded {} Try.checked os 8 .any (Rows.holdPlaysSpec.pre6 enc Try.prog Try.f8 Rows.holdPlaysRow.domain false) (Rows.holdPlaysSpec.post enc Try.prog Try.f8 false true false false) := by
  refine returnsInHanded_of_change_sized (C := Try.checked) own started (by kernel_rfl) Try.func8
    (ChangeSpec.witness6 (enc := enc) (C := Try.checked) false ⟨#[], #[.slice none 0 0, .int .i64 0], []⟩ 8 (by kernel_rfl) (by kernel_rfl) (by kernel_rfl) (by kernel_rfl)) ?_
  intro W base args ds gs before hval0 hW hcnd hsz0 _
  have hval : ∀ (j : Nat) t v, Try.f8.params[j]? = some t → args[j]? = some v → Value.okWide Try.prog W .any base t v := hval0
  have hW' := hW
  obtain ⟨p, q, hA0, hV, rfl, hfz, hnd⟩ := hW
  have hA : DataW.TrodAll enc Try.prog W 0 (fun _ => true) true Try.f8.params.toList args.toList ds p := hA0
  rw [Try.params8] at hA hval
  obtain ⟨v0, vs0, d0, ds0, p0, q0, hargs, rfl, rfl, h0, r0⟩ := trodAll_cons hA
  obtain ⟨v1, vs1, d1, ds1, p1, q1, rfl, rfl, rfl, h1, r1⟩ := trodAll_cons r0
  obtain ⟨rfl, rfl, rfl⟩ := trodAll_nil r1
  obtain rfl : args = #[v0, v1] := by cases args; simp_all
  obtain ⟨rfl, rfl⟩ := trodVars_none hV
  have lt0 : ∀ x ∈ p0, x.block < W.heap.size := by obtain ⟨m, hm⟩ := h0; exact DataW.trod_lt m _ _ _ hm
  obtain ⟨a0, x0, w0⟩ := trod_av (rd_slice (k := 10) splicelaw06_Act.z Try.underlying73 (by kernel_rfl) (by decide) splicelaw06_Act.rd76) h0
  obtain ⟨A0, len0, cap0, rfl⟩ := okWide_slice Try.underlying73 (hval 0 73 v0 rfl rfl)
  have y0 := vr_one (by simpa [Value.cells, eL, eI, eB, eS] using x0)
  have lt1 : ∀ x ∈ p1, x.block < W.heap.size := by obtain ⟨m, hm⟩ := h1; exact DataW.trod_lt m _ _ _ hm
  obtain ⟨a1, x1, w1⟩ := trod_av (rd_int Try.underlying3) h1
  obtain ⟨b1, rfl⟩ := okWide_int Try.underlying3 (hval 1 3 v1 rfl rfl)
  have y1 := vr_one (by simpa [Value.cells, eL, eI, eB, eS] using x1)
  clear hA0 hval0 hsz0
  refine (law_calls (said a0 a1 w0 w1) (.cons (.d y0) (.cons (.d y1) .nil))).mono fun e W' ⟨he, bel⟩ => ?_
  subst he
  exact ⟨_, rfl, _, _, _, [], _, [], hW', trodAll_mk1 (shut_bool Try.underlying4 _), (trodAll_cons_mk (Below.trod laidOut (by kernel_rfl) (of_decide_eq_true (by kernel_rfl)) h0 bel lt0) (trodAll_cons_mk (Below.trod laidOut (by kernel_rfl) (of_decide_eq_true (by kernel_rfl)) h1 bel lt1) trodAll_mk0)), rfl, bel.frame _, fun h => by cases h⟩

theorem over : Rows.holdPlaysRow.holds Try.pinned (OpenSpec.ofChange Rows.holdPlaysSpec) :=
  OpenClaim.holds_of_wide 8 Try.f8 rfl rfl rfl rfl rfl rfl rfl ⟨rfl, rfl, rfl, rfl, rfl⟩ rfl rfl rfl rfl rfl (by kernel_rfl) Try.func8 (by kernel_rfl)
    (of_decide_eq_true (by kernel_rfl)) (by unfold Func.isWrapper; first | (rw [if_pos (by decide +kernel)]; kernel_rfl) | (rw [if_neg (by decide +kernel)]; exact ⟨rfl, rfl⟩))
    (fun os started H enc _ => lifted os started H enc)
end Go.Proofs.Ytboaahlhgekbbaa.holdPlays
namespace Go.Proofs.Ytboaahlhgekbbaa
theorem holdPlays_holds : Rows.HoldPlaysSaid := holdPlays.over
#print axioms holdPlays_holds
end Go.Proofs.Ytboaahlhgekbbaa
