/- The row of the law AuditRight: from what the code says and the plain law to the statement. -/
import Derived.Test.YtdndobkfnmommaaRows
import Derived.Test.YtdndobkfnmommaaG24LCp0
import Derived.Test.YtdndobkfnmommaaP24T
import Derived.Test.YtdndobkfnmommaaSyRA
import Derived.WalkKit
import Derived.ProofKit
import Derived.OpenShut
import Derived.ShutString
import Derived.ChangeOld
import Derived.Below
import Derived.SizedLaws
import Derived.Carry
set_option linter.unusedVariables false
namespace Go.Proofs.Ytdndobkfnmommaa.auditRight
open Go.ChangeShapes Go.WideShapes Go.ChangeAt Go.RowKit Go.Sy Go.SyP
open Go.ChangeMaps (open_string shut_string)

theorem own:ownKnob Try.prog.godebug=none:=by kernel_rfl
theorem laidOut:laidOutB Try.prog=true:=by kernel_rfl
def api_Pair.wf76 (x:api_Pair):Prop:=(fun n=>(Lit.int .i64 n).wf=true) x.Key∧(fun n=>(Lit.int .i64 n).wf=true) x.Val
theorem api_Pair.rd76:RD Try.prog 76 api_Pair.e api_Pair.wf76:=
 rd_struct (e':=api_Pair.e) (wf':=api_Pair.wf76) Try.underlying76 (by kernel_rfl) (rf_cons (off:=0) (n:=1) (rd_int Try.underlying3) rfl (by kernel_rfl) (rf_cons (off:=1) (n:=1) (rd_int Try.underlying3) rfl (by kernel_rfl) (rf_nil 2))) (fun p=>⟨p.1,p.2.1⟩) (by intro _;rfl) (by intro p h;exact ⟨h.1,h.2.1⟩)
def api_Span.wf46 (x:api_Span):Prop:=(fun n=>(Lit.int .i64 n).wf=true) x.Lo∧(fun n=>(Lit.int .i64 n).wf=true) x.Hi
theorem api_Span.rd46:RD Try.prog 46 api_Span.e api_Span.wf46:=
 rd_struct (e':=api_Span.e) (wf':=api_Span.wf46) Try.underlying46 (by kernel_rfl) (rf_cons (off:=0) (n:=1) (rd_int Try.underlying3) rfl (by kernel_rfl) (rf_cons (off:=1) (n:=1) (rd_int Try.underlying3) rfl (by kernel_rfl) (rf_nil 2))) (fun p=>⟨p.1,p.2.1⟩) (by intro _;rfl) (by intro p h;exact ⟨h.1,h.2.1⟩)
def api_Mut.wf48 (x:api_Mut):Prop:=(fun n=>(Lit.int .i64 n).wf=true) x.Client∧(fun n=>(Lit.int .i64 n).wf=true) x.Seq∧(fun n=>(Lit.int .i64 n).wf=true) x.Kind∧(fun xs=>xs.length≤maxLen∧∀ x∈xs,(api_Pair.wf76) x) x.Pairs∧(api_Span.wf46) x.Over∧(fun n=>(Lit.int .i64 n).wf=true) x.Old
theorem api_Mut.rd48:RD Try.prog 48 api_Mut.e api_Mut.wf48:=
 rd_struct (e':=api_Mut.e) (wf':=api_Mut.wf48) Try.underlying48 (by kernel_rfl) (rf_cons (off:=0) (n:=1) (rd_int Try.underlying3) rfl (by kernel_rfl) (rf_cons (off:=1) (n:=1) (rd_int Try.underlying3) rfl (by kernel_rfl) (rf_cons (off:=2) (n:=1) (rd_int Try.underlying3) rfl (by kernel_rfl) (rf_cons (off:=3) (n:=1) (rd_slice (k:=2) api_Pair.z Try.underlying44 (by kernel_rfl) (by decide) api_Pair.rd76) rfl (by kernel_rfl) (rf_cons (off:=4) (n:=2) api_Span.rd46 rfl (by kernel_rfl) (rf_cons (off:=6) (n:=1) (rd_int Try.underlying3) rfl (by kernel_rfl) (rf_nil 7))))))) (fun p=>⟨p.1,p.2.1,p.2.2.1,p.2.2.2.1,p.2.2.2.2.1,p.2.2.2.2.2.1⟩) (by intro _;rfl) (by intro p h;exact ⟨h.1,h.2.1,h.2.2.1,h.2.2.2.1,h.2.2.2.2.1,h.2.2.2.2.2.1⟩)
def api_Entry.wf74 (x:api_Entry):Prop:=(api_Mut.wf48) x.M∧(fun n=>(Lit.int .i64 n).wf=true) x.Time∧(fun _=>True) x.Done
theorem api_Entry.rd74:RD Try.prog 74 api_Entry.e api_Entry.wf74:=
 rd_struct (e':=api_Entry.e) (wf':=api_Entry.wf74) Try.underlying74 (by kernel_rfl) (rf_cons (off:=0) (n:=7) api_Mut.rd48 rfl (by kernel_rfl) (rf_cons (off:=7) (n:=1) (rd_int Try.underlying3) rfl (by kernel_rfl) (rf_cons (off:=8) (n:=1) (rd_bool Try.underlying4) rfl (by kernel_rfl) (rf_nil 9)))) (fun p=>⟨p.1,p.2.1,p.2.2.1⟩) (by intro _;rfl) (by intro p h;exact ⟨h.1,h.2.1,h.2.2.1⟩)
def api_Cell.wf50 (x:api_Cell):Prop:=(fun n=>(Lit.int .i64 n).wf=true) x.Val∧(fun _=>True) x.Some
theorem api_Cell.rd50:RD Try.prog 50 api_Cell.e api_Cell.wf50:=
 rd_struct (e':=api_Cell.e) (wf':=api_Cell.wf50) Try.underlying50 (by kernel_rfl) (rf_cons (off:=0) (n:=1) (rd_int Try.underlying3) rfl (by kernel_rfl) (rf_cons (off:=1) (n:=1) (rd_bool Try.underlying4) rfl (by kernel_rfl) (rf_nil 2))) (fun p=>⟨p.1,p.2.1⟩) (by intro _;rfl) (by intro p h;exact ⟨h.1,h.2.1⟩)
def api_Event.wf52 (x:api_Event):Prop:=(fun n=>(Lit.int .i64 n).wf=true) x.Kind∧(fun n=>(Lit.int .i64 n).wf=true) x.Client∧(api_Mut.wf48) x.M∧(fun n=>(Lit.int .i64 n).wf=true) x.Key∧(api_Cell.wf50) x.Cell∧(fun n=>(Lit.int .i64 n).wf=true) x.Mark
theorem api_Event.rd52:RD Try.prog 52 api_Event.e api_Event.wf52:=
 rd_struct (e':=api_Event.e) (wf':=api_Event.wf52) Try.underlying52 (by kernel_rfl) (rf_cons (off:=0) (n:=1) (rd_int Try.underlying3) rfl (by kernel_rfl) (rf_cons (off:=1) (n:=1) (rd_int Try.underlying3) rfl (by kernel_rfl) (rf_cons (off:=2) (n:=7) api_Mut.rd48 rfl (by kernel_rfl) (rf_cons (off:=9) (n:=1) (rd_int Try.underlying3) rfl (by kernel_rfl) (rf_cons (off:=10) (n:=2) api_Cell.rd50 rfl (by kernel_rfl) (rf_cons (off:=12) (n:=1) (rd_int Try.underlying3) rfl (by kernel_rfl) (rf_nil 13))))))) (fun p=>⟨p.1,p.2.1,p.2.2.1,p.2.2.2.1,p.2.2.2.2.1,p.2.2.2.2.2.1⟩) (by intro _;rfl) (by intro p h;exact ⟨h.1,h.2.1,h.2.2.1,h.2.2.2.1,h.2.2.2.2.1,h.2.2.2.2.2.1⟩)
theorem said (a0:List api_Entry) (a1:List api_Event) (a2:Int) (w0:(fun xs=>xs.length≤maxLen∧∀ x∈xs,(api_Entry.wf74) x) a0) (w1:(fun xs=>xs.length≤maxLen∧∀ x∈xs,(api_Event.wf52) x) a1) (w2:(fun n=>(Lit.int .i64 n).wf=true) a2):Says Try.prog 4 [] [.d (.sl true a0.length (vec api_Entry.e api_Entry.z a0)),.d (.sl true a1.length (vec api_Event.e api_Event.z a1)),.d (.v (.int .i64 a2))] [] (.d (.v (.bool true))):=by
 exact splicelaw24_AuditRight.says a0 a1 a2 (splicelaw24_AuditRight_true a0 a1 a2)

set_option maxRecDepth 100000 in
theorem lifted (os:Os) (started:os.Started) (H:Type) (enc:TypeId × Value→H):
  ReturnsInHanded {} Try.checked os 4 .any (Rows.auditRightSpec.pre6 enc Try.prog Try.f4 Rows.auditRightRow.domain false) (Rows.auditRightSpec.post enc Try.prog Try.f4 false true false false):=by
 refine returnsInHanded_of_change_sized (C:=Try.checked) own started (by kernel_rfl) Try.func4
  (ChangeSpec.witness6 (enc:=enc) (C:=Try.checked) false ⟨#[],#[.slice none 0 0,.slice none 0 0,.int .i64 0],[]⟩ 8 (by kernel_rfl) (by kernel_rfl) (by kernel_rfl) (by kernel_rfl)) ?_
 intro W base args ds gs before hval0 hW hcnd hsz0 _
 have hval:∀ (j:Nat) t v,Try.f4.params[j]? = some t→args[j]? = some v→Value.okWide Try.prog W .any base t v:=hval0
 have hW':=hW
 obtain ⟨p,q,hA0,hV,rfl,hfz,hnd⟩:=hW
 have hA:DataW.TrodAll enc Try.prog W 0 (fun _=>true) true Try.f4.params.toList args.toList ds p:=hA0
 rw [Try.params4] at hA hval
 obtain ⟨v0,vs0,d0,ds0,p0,q0,hargs,rfl,rfl,h0,r0⟩:=trodAll_cons hA
 obtain ⟨v1,vs1,d1,ds1,p1,q1,rfl,rfl,rfl,h1,r1⟩:=trodAll_cons r0
 obtain ⟨v2,vs2,d2,ds2,p2,q2,rfl,rfl,rfl,h2,r2⟩:=trodAll_cons r1
 obtain ⟨rfl,rfl,rfl⟩:=trodAll_nil r2
 obtain rfl:args=#[v0,v1,v2]:=by cases args;simp_all
 obtain ⟨rfl,rfl⟩:=trodVars_none hV
 have lt0:∀ x∈p0,x.block < W.heap.size:=by obtain ⟨m,hm⟩:=h0;exact DataW.trod_lt m _ _ _ hm
 obtain ⟨a0,x0,w0⟩:=trod_av (rd_slice (k:=9) api_Entry.z Try.underlying22 (by kernel_rfl) (by decide) api_Entry.rd74) h0
 obtain ⟨A0,len0,cap0,rfl⟩:=okWide_slice Try.underlying22 (hval 0 22 v0 rfl rfl)
 have y0:=vr_one (by simpa [Value.cells,eL,eI,eB,eS] using x0)
 have lt1:∀ x∈p1,x.block < W.heap.size:=by obtain ⟨m,hm⟩:=h1;exact DataW.trod_lt m _ _ _ hm
 obtain ⟨a1,x1,w1⟩:=trod_av (rd_slice (k:=13) api_Event.z Try.underlying23 (by kernel_rfl) (by decide) api_Event.rd52) h1
 obtain ⟨A1,len1,cap1,rfl⟩:=okWide_slice Try.underlying23 (hval 1 23 v1 rfl rfl)
 have y1:=vr_one (by simpa [Value.cells,eL,eI,eB,eS] using x1)
 have lt2:∀ x∈p2,x.block < W.heap.size:=by obtain ⟨m,hm⟩:=h2;exact DataW.trod_lt m _ _ _ hm
 obtain ⟨a2,x2,w2⟩:=trod_av (rd_int Try.underlying3) h2
 obtain ⟨b2,rfl⟩:=okWide_int Try.underlying3 (hval 2 3 v2 rfl rfl)
 have y2:=vr_one (by simpa [Value.cells,eL,eI,eB,eS] using x2)
 clear hA0 hval0 hsz0
 refine (law_calls (said a0 a1 a2 w0 w1 w2) (.cons (.d y0) (.cons (.d y1) (.cons (.d y2) .nil)))).mono fun e W' ⟨he,bel⟩=>?_
 subst he
 exact ⟨_,rfl,_,_,_,[],_,[],hW',trodAll_mk1 (shut_bool Try.underlying4 _),(trodAll_cons_mk (Below.trod laidOut (by kernel_rfl) (of_decide_eq_true (by kernel_rfl)) h0 bel lt0) (trodAll_cons_mk (Below.trod laidOut (by kernel_rfl) (of_decide_eq_true (by kernel_rfl)) h1 bel lt1) (trodAll_cons_mk (Below.trod laidOut (by kernel_rfl) (of_decide_eq_true (by kernel_rfl)) h2 bel lt2) trodAll_mk0))),rfl,bel.frame _,fun h=>by cases h⟩

theorem over:Rows.auditRightRow.holds Try.pinned (OpenSpec.ofChange Rows.auditRightSpec):=
 OpenClaim.holds_of_wide 4 Try.f4 rfl rfl rfl rfl rfl rfl rfl ⟨rfl,rfl,rfl,rfl,rfl⟩ rfl rfl rfl rfl rfl (by kernel_rfl) Try.func4 (by kernel_rfl)
  (of_decide_eq_true (by kernel_rfl)) (by unfold Func.isWrapper;first | (rw [if_pos (by decide +kernel)];kernel_rfl) | (rw [if_neg (by decide +kernel)];exact ⟨rfl,rfl⟩))
  (fun os started H enc _=>lifted os started H enc)
end Go.Proofs.Ytdndobkfnmommaa.auditRight
namespace Go.Proofs.Ytdndobkfnmommaa
theorem auditRight_holds:Rows.AuditRightSaid:=auditRight.over
#print axioms auditRight_holds
end Go.Proofs.Ytdndobkfnmommaa
