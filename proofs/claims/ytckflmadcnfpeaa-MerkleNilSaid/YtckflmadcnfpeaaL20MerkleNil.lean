/- The row of the law MerkleNil: from what the code says and the plain law to the statement. -/
import Derived.Test.YtckflmadcnfpeaaRows
import Derived.Test.YtckflmadcnfpeaaG20Cp1
import Derived.Test.YtckflmadcnfpeaaP20V
import Derived.Test.YtckflmadcnfpeaaSyRA
import Derived.WalkKit
import Derived.ProofKit
import Derived.OpenShut
import Derived.ShutString
import Derived.ChangeOld
import Derived.Below
import Derived.SizedLaws
import Derived.Carry
set_option linter.unusedVariables false
namespace Go.Proofs.Ytckflmadcnfpeaa.merkleNil
open Go.ChangeShapes Go.WideShapes Go.ChangeAt Go.RowKit Go.Sy Go.SyP
open Go.ChangeMaps (open_string shut_string)

theorem own : ownKnob Try.prog.godebug = none := by kernel_rfl
theorem laidOut : laidOutB Try.prog = true := by kernel_rfl
def api_Pair.wf42 (x : api_Pair) : Prop := (fun n => (Lit.int .i64 n).wf = true) x.Key ∧ (fun n => (Lit.int .i64 n).wf = true) x.Val
theorem api_Pair.rd42 : RD Try.prog 42 api_Pair.e api_Pair.wf42 :=
  rd_struct (e' := api_Pair.e) (wf' := api_Pair.wf42) Try.underlying42 (by kernel_rfl) (rf_cons (off := 0) (n := 1) (rd_int Try.underlying3) rfl (by kernel_rfl) (rf_cons (off := 1) (n := 1) (rd_int Try.underlying3) rfl (by kernel_rfl) (rf_nil 2))) (fun p => ⟨p.1, p.2.1⟩) (by intro _; rfl) (by intro p h; exact ⟨h.1, h.2.1⟩)
def api_Cell.wf48 (x : api_Cell) : Prop := (fun n => (Lit.int .i64 n).wf = true) x.Val ∧ (fun _ => True) x.Some
theorem api_Cell.rd48 : RD Try.prog 48 api_Cell.e api_Cell.wf48 :=
  rd_struct (e' := api_Cell.e) (wf' := api_Cell.wf48) Try.underlying48 (by kernel_rfl) (rf_cons (off := 0) (n := 1) (rd_int Try.underlying3) rfl (by kernel_rfl) (rf_cons (off := 1) (n := 1) (rd_bool Try.underlying4) rfl (by kernel_rfl) (rf_nil 2))) (fun p => ⟨p.1, p.2.1⟩) (by intro _; rfl) (by intro p h; exact ⟨h.1, h.2.1⟩)
theorem said (a0 : Int) (a1 : List api_Pair) (a2 : api_Cell) (w0 : (fun n => (Lit.int .i64 n).wf = true) a0) (w1 : (fun xs => xs.length ≤ maxLen ∧ ∀ x ∈ xs, (api_Pair.wf42) x) a1) (w2 : (api_Cell.wf48) a2) : Says Try.prog 7 [] [.d (.v (.int .i64 a0)), .d (.sl true a1.length (vec api_Pair.e api_Pair.z a1)), .d (.agg (api_Cell.e a2))] [] (.d (.v (.bool true))) := by
  exact splicelaw20_MerkleNil.says a0 a1 a2 (splicelaw20_MerkleNil_true a0 a1 a2 w0 w1 w2)

set_option maxRecDepth 100000 in
theorem lifted (os : Os) (started : os.Started) (H : Type) (enc : TypeId × Value → H) :
    ReturnsInHanded {} Try.checked os 7 .any (Rows.merkleNilSpec.pre6 enc Try.prog Try.f7 Rows.merkleNilRow.domain false) (Rows.merkleNilSpec.post enc Try.prog Try.f7 false true false false) := by
  refine returnsInHanded_of_change_sized (C := Try.checked) own started (by kernel_rfl) Try.func7
    (ChangeSpec.witness6 (enc := enc) (C := Try.checked) false ⟨#[], #[.int .i64 0, .slice none 0 0, .agg #[.int .i64 0, .bool false]], []⟩ 8 (by kernel_rfl) (by kernel_rfl) (by kernel_rfl) (by kernel_rfl)) ?_
  intro W base args ds gs before hval0 hW hcnd hsz0 _
  have hval : ∀ (j : Nat) t v, Try.f7.params[j]? = some t → args[j]? = some v → Value.okWide Try.prog W .any base t v := hval0
  have hW' := hW
  obtain ⟨p, q, hA0, hV, rfl, hfz, hnd⟩ := hW
  have hA : DataW.TrodAll enc Try.prog W 0 (fun _ => true) true Try.f7.params.toList args.toList ds p := hA0
  rw [Try.params7] at hA hval
  obtain ⟨v0, vs0, d0, ds0, p0, q0, hargs, rfl, rfl, h0, r0⟩ := trodAll_cons hA
  obtain ⟨v1, vs1, d1, ds1, p1, q1, rfl, rfl, rfl, h1, r1⟩ := trodAll_cons r0
  obtain ⟨v2, vs2, d2, ds2, p2, q2, rfl, rfl, rfl, h2, r2⟩ := trodAll_cons r1
  obtain ⟨rfl, rfl, rfl⟩ := trodAll_nil r2
  obtain rfl : args = #[v0, v1, v2] := by cases args; simp_all
  obtain ⟨rfl, rfl⟩ := trodVars_none hV
  have lt0 : ∀ x ∈ p0, x.block < W.heap.size := by obtain ⟨m, hm⟩ := h0; exact DataW.trod_lt m _ _ _ hm
  obtain ⟨a0, x0, w0⟩ := trod_av (rd_int Try.underlying3) h0
  obtain ⟨b0, rfl⟩ := okWide_int Try.underlying3 (hval 0 3 v0 rfl rfl)
  have y0 := vr_one (by simpa [Value.cells, eL, eI, eB, eS] using x0)
  have lt1 : ∀ x ∈ p1, x.block < W.heap.size := by obtain ⟨m, hm⟩ := h1; exact DataW.trod_lt m _ _ _ hm
  obtain ⟨a1, x1, w1⟩ := trod_av (rd_slice (k := 2) api_Pair.z Try.underlying22 (by kernel_rfl) (by decide) api_Pair.rd42) h1
  obtain ⟨A1, len1, cap1, rfl⟩ := okWide_slice Try.underlying22 (hval 1 22 v1 rfl rfl)
  have y1 := vr_one (by simpa [Value.cells, eL, eI, eB, eS] using x1)
  have lt2 : ∀ x ∈ p2, x.block < W.heap.size := by obtain ⟨m, hm⟩ := h2; exact DataW.trod_lt m _ _ _ hm
  obtain ⟨a2, x2, w2⟩ := trod_av api_Cell.rd48 h2
  obtain ⟨cs2, rfl, cz2⟩ := okWide_struct Try.underlying48 (hval 2 48 v2 rfl rfl)
  have y2 : VR W (okW W) (.agg (api_Cell.e a2)) (.agg cs2) := by
    have := VR.agg x2
    simpa [Value.cells] using this
  clear hA0 hval0 hsz0
  refine (law_calls (said a0 a1 a2 w0 w1 w2) (.cons (.d y0) (.cons (.d y1) (.cons (.d y2) .nil)))).mono fun e W' ⟨he, bel⟩ => ?_
  subst he
  exact ⟨_, rfl, _, _, _, [], _, [], hW', trodAll_mk1 (shut_bool Try.underlying4 _), (trodAll_cons_mk (Below.trod laidOut (by kernel_rfl) (of_decide_eq_true (by kernel_rfl)) h0 bel lt0) (trodAll_cons_mk (Below.trod laidOut (by kernel_rfl) (of_decide_eq_true (by kernel_rfl)) h1 bel lt1) (trodAll_cons_mk (Below.trod laidOut (by kernel_rfl) (of_decide_eq_true (by kernel_rfl)) h2 bel lt2) trodAll_mk0))), rfl, bel.frame _, fun h => by cases h⟩

theorem over : Rows.merkleNilRow.holds Try.pinned (OpenSpec.ofChange Rows.merkleNilSpec) :=
  OpenClaim.holds_of_wide 7 Try.f7 rfl rfl rfl rfl rfl rfl rfl ⟨rfl, rfl, rfl, rfl, rfl⟩ rfl rfl rfl rfl rfl (by kernel_rfl) Try.func7 (by kernel_rfl)
    (of_decide_eq_true (by kernel_rfl)) (by unfold Func.isWrapper; first | (rw [if_pos (by decide +kernel)]; kernel_rfl) | (rw [if_neg (by decide +kernel)]; exact ⟨rfl, rfl⟩))
    (fun os started H enc _ => lifted os started H enc)
end Go.Proofs.Ytckflmadcnfpeaa.merkleNil
namespace Go.Proofs.Ytckflmadcnfpeaa
theorem merkleNil_holds : Rows.MerkleNilSaid := merkleNil.over
#print axioms merkleNil_holds
end Go.Proofs.Ytckflmadcnfpeaa
