/- The row of the law HoldOwn: from what the code says and the plain law to the statement. -/
import Derived.Test.YtboaahlhgekbbaaRows
import Derived.Test.YtboaahlhgekbbaaG06OCp0
import Derived.Test.YtboaahlhgekbbaaP06O
import Derived.Test.YtboaahlhgekbbaaSyRA
import Derived.WalkKit
import Derived.ProofKit
import Derived.OpenShut
import Derived.ShutString
import Derived.ChangeOld
import Derived.Below
import Derived.SizedLaws
import Derived.Carry
set_option linter.unusedVariables false
namespace Go.Proofs.Ytboaahlhgekbbaa.holdOwn
open Go.ChangeShapes Go.WideShapes Go.ChangeAt Go.RowKit Go.Sy Go.SyP
open Go.ChangeMaps (open_string shut_string)

theorem own : ownKnob Try.prog.godebug = none := by kernel_rfl
theorem laidOut : laidOutB Try.prog = true := by kernel_rfl
def api_Pair.wf70 (x : api_Pair) : Prop := (fun n => (Lit.int .i64 n).wf = true) x.Key ∧ (fun n => (Lit.int .i64 n).wf = true) x.Val
theorem api_Pair.rd70 : RD Try.prog 70 api_Pair.e api_Pair.wf70 :=
  rd_struct (e' := api_Pair.e) (wf' := api_Pair.wf70) Try.underlying70 (by kernel_rfl) (rf_cons (off := 0) (n := 1) (rd_int Try.underlying3) rfl (by kernel_rfl) (rf_cons (off := 1) (n := 1) (rd_int Try.underlying3) rfl (by kernel_rfl) (rf_nil 2))) (fun p => ⟨p.1, p.2.1⟩) (by intro _; rfl) (by intro p h; exact ⟨h.1, h.2.1⟩)
def api_Span.wf28 (x : api_Span) : Prop := (fun n => (Lit.int .i64 n).wf = true) x.Lo ∧ (fun n => (Lit.int .i64 n).wf = true) x.Hi
theorem api_Span.rd28 : RD Try.prog 28 api_Span.e api_Span.wf28 :=
  rd_struct (e' := api_Span.e) (wf' := api_Span.wf28) Try.underlying28 (by kernel_rfl) (rf_cons (off := 0) (n := 1) (rd_int Try.underlying3) rfl (by kernel_rfl) (rf_cons (off := 1) (n := 1) (rd_int Try.underlying3) rfl (by kernel_rfl) (rf_nil 2))) (fun p => ⟨p.1, p.2.1⟩) (by intro _; rfl) (by intro p h; exact ⟨h.1, h.2.1⟩)
def api_Mut.wf30 (x : api_Mut) : Prop := (fun n => (Lit.int .i64 n).wf = true) x.Client ∧ (fun n => (Lit.int .i64 n).wf = true) x.Seq ∧ (fun n => (Lit.int .i64 n).wf = true) x.Kind ∧ (fun xs => xs.length ≤ maxLen ∧ ∀ x ∈ xs, (api_Pair.wf70) x) x.Pairs ∧ (api_Span.wf28) x.Over ∧ (fun n => (Lit.int .i64 n).wf = true) x.Old
theorem api_Mut.rd30 : RD Try.prog 30 api_Mut.e api_Mut.wf30 :=
  rd_struct (e' := api_Mut.e) (wf' := api_Mut.wf30) Try.underlying30 (by kernel_rfl) (rf_cons (off := 0) (n := 1) (rd_int Try.underlying3) rfl (by kernel_rfl) (rf_cons (off := 1) (n := 1) (rd_int Try.underlying3) rfl (by kernel_rfl) (rf_cons (off := 2) (n := 1) (rd_int Try.underlying3) rfl (by kernel_rfl) (rf_cons (off := 3) (n := 1) (rd_slice (k := 2) api_Pair.z Try.underlying26 (by kernel_rfl) (by decide) api_Pair.rd70) rfl (by kernel_rfl) (rf_cons (off := 4) (n := 2) api_Span.rd28 rfl (by kernel_rfl) (rf_cons (off := 6) (n := 1) (rd_int Try.underlying3) rfl (by kernel_rfl) (rf_nil 7))))))) (fun p => ⟨p.1, p.2.1, p.2.2.1, p.2.2.2.1, p.2.2.2.2.1, p.2.2.2.2.2.1⟩) (by intro _; rfl) (by intro p h; exact ⟨h.1, h.2.1, h.2.2.1, h.2.2.2.1, h.2.2.2.2.1, h.2.2.2.2.2.1⟩)
def api_Held.wf32 (x : api_Held) : Prop := (api_Mut.wf30) x.M ∧ (fun n => (Lit.int .i64 n).wf = true) x.Time ∧ (fun _ => True) x.Final
theorem api_Held.rd32 : RD Try.prog 32 api_Held.e api_Held.wf32 :=
  rd_struct (e' := api_Held.e) (wf' := api_Held.wf32) Try.underlying32 (by kernel_rfl) (rf_cons (off := 0) (n := 7) api_Mut.rd30 rfl (by kernel_rfl) (rf_cons (off := 7) (n := 1) (rd_int Try.underlying3) rfl (by kernel_rfl) (rf_cons (off := 8) (n := 1) (rd_bool Try.underlying4) rfl (by kernel_rfl) (rf_nil 9)))) (fun p => ⟨p.1, p.2.1, p.2.2.1⟩) (by intro _; rfl) (by intro p h; exact ⟨h.1, h.2.1, h.2.2.1⟩)
theorem said (a0 : api_Held) (w0 : (api_Held.wf32) a0) : Says Try.prog 7 [] [.d (.agg (api_Held.e a0))] [] (.d (.v (.bool true))) := by
  exact splicelaw06_HoldOwn.says a0 (splicelaw06_HoldOwn_true a0 w0)

set_option maxRecDepth 100000 in
theorem lifted (os : Os) (started : os.Started) (H : Type) (enc : TypeId × Value → H) :
    ReturnsInHanded {} Try.checked os 7 .any (Rows.holdOwnSpec.pre6 enc Try.prog Try.f7 Rows.holdOwnRow.domain false) (Rows.holdOwnSpec.post enc Try.prog Try.f7 false true false false) := by
  refine returnsInHanded_of_change_sized (C := Try.checked) own started (by kernel_rfl) Try.func7
    (ChangeSpec.witness6 (enc := enc) (C := Try.checked) false ⟨#[], #[.agg #[.int .i64 0, .int .i64 0, .int .i64 0, .slice none 0 0, .int .i64 0, .int .i64 0, .int .i64 0, .int .i64 0, .bool false]], []⟩ 8 (by kernel_rfl) (by kernel_rfl) (by kernel_rfl) (by kernel_rfl)) ?_
  intro W base args ds gs before hval0 hW hcnd hsz0 _
  have hval : ∀ (j : Nat) t v, Try.f7.params[j]? = some t → args[j]? = some v → Value.okWide Try.prog W .any base t v := hval0
  have hW' := hW
  obtain ⟨p, q, hA0, hV, rfl, hfz, hnd⟩ := hW
  have hA : DataW.TrodAll enc Try.prog W 0 (fun _ => true) true Try.f7.params.toList args.toList ds p := hA0
  rw [Try.params7] at hA hval
  obtain ⟨v0, vs0, d0, ds0, p0, q0, hargs, rfl, rfl, h0, r0⟩ := trodAll_cons hA
  obtain ⟨rfl, rfl, rfl⟩ := trodAll_nil r0
  obtain rfl : args = #[v0] := by cases args; simp_all
  obtain ⟨rfl, rfl⟩ := trodVars_none hV
  have lt0 : ∀ x ∈ p0, x.block < W.heap.size := by obtain ⟨m, hm⟩ := h0; exact DataW.trod_lt m _ _ _ hm
  obtain ⟨a0, x0, w0⟩ := trod_av api_Held.rd32 h0
  obtain ⟨cs0, rfl, cz0⟩ := okWide_struct Try.underlying32 (hval 0 32 v0 rfl rfl)
  have y0 : VR W (okW W) (.agg (api_Held.e a0)) (.agg cs0) := by
    have := VR.agg x0
    simpa [Value.cells] using this
  clear hA0 hval0 hsz0
  refine (law_calls (said a0 w0) (.cons (.d y0) .nil)).mono fun e W' ⟨he, bel⟩ => ?_
  subst he
  exact ⟨_, rfl, _, _, _, [], _, [], hW', trodAll_mk1 (shut_bool Try.underlying4 _), (trodAll_cons_mk (Below.trod laidOut (by kernel_rfl) (of_decide_eq_true (by kernel_rfl)) h0 bel lt0) trodAll_mk0), rfl, bel.frame _, fun h => by cases h⟩

theorem over : Rows.holdOwnRow.holds Try.pinned (OpenSpec.ofChange Rows.holdOwnSpec) :=
  OpenClaim.holds_of_wide 7 Try.f7 rfl rfl rfl rfl rfl rfl rfl ⟨rfl, rfl, rfl, rfl, rfl⟩ rfl rfl rfl rfl rfl (by kernel_rfl) Try.func7 (by kernel_rfl)
    (of_decide_eq_true (by kernel_rfl)) (by unfold Func.isWrapper; first | (rw [if_pos (by decide +kernel)]; kernel_rfl) | (rw [if_neg (by decide +kernel)]; exact ⟨rfl, rfl⟩))
    (fun os started H enc _ => lifted os started H enc)
end Go.Proofs.Ytboaahlhgekbbaa.holdOwn
namespace Go.Proofs.Ytboaahlhgekbbaa
theorem holdOwn_holds : Rows.HoldOwnSaid := holdOwn.over
#print axioms holdOwn_holds
end Go.Proofs.Ytboaahlhgekbbaa
