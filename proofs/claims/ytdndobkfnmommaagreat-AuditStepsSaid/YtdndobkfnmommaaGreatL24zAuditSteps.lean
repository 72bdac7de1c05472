/- The row of the law AuditSteps: from what the code says and the plain law to the statement. -/
import Derived.Test.YtdndobkfnmommaaGreatRows
import Derived.Test.YtdndobkfnmommaaGreatG24zLCp0
import Derived.Test.YtdndobkfnmommaaGreatP24zX
import Derived.Test.YtdndobkfnmommaaGreatSyRA
import Derived.WalkKit
import Derived.ProofKit
import Derived.OpenShut
import Derived.ShutString
import Derived.ChangeOld
import Derived.Below
import Derived.SizedLaws
import Derived.Carry
set_option linter.unusedVariables false
namespace Go.Proofs.YtdndobkfnmommaaGreat.auditSteps
open Go.ChangeShapes Go.WideShapes Go.ChangeAt Go.RowKit Go.Sy Go.SyP
open Go.ChangeMaps (open_string shut_string)
theorem own:ownKnob Tryz.prog.godebug=none:=by kernel_rfl
theorem laidOut:laidOutB Tryz.prog=true:=by kernel_rfl
def Qa.Wgs (x:Qa):Prop:=(fun n=>(Lit.int .i64 n).wf=true) x.Key/\(fun n=>(Lit.int .i64 n).wf=true) x.Val
theorem Qa.Wj0:RD Tryz.prog 81 Qa.e Qa.Wgs:=
 Qma (e':=Qa.e) (wf':=Qa.Wgs) Tryz.underlying81 (by kernel_rfl) (Qgc (off:=0) (n:=1) (Qif Tryz.underlying3) rfl (by kernel_rfl) (Qgc (off:=1) (n:=1) (Qif Tryz.underlying3) rfl (by kernel_rfl) (Qsy 2))) (fun p=>⟨p.1,p.2.1⟩) (by intro _;rfl) (by intro p h;exact ⟨h.1,h.2.1⟩)
def Qb.Wa7 (x:Qb):Prop:=(fun n=>(Lit.int .i64 n).wf=true) x.Lo/\(fun n=>(Lit.int .i64 n).wf=true) x.Hi
theorem Qb.Wja:RD Tryz.prog 33 Qb.e Qb.Wa7:=
 Qma (e':=Qb.e) (wf':=Qb.Wa7) Tryz.underlying33 (by kernel_rfl) (Qgc (off:=0) (n:=1) (Qif Tryz.underlying3) rfl (by kernel_rfl) (Qgc (off:=1) (n:=1) (Qif Tryz.underlying3) rfl (by kernel_rfl) (Qsy 2))) (fun p=>⟨p.1,p.2.1⟩) (by intro _;rfl) (by intro p h;exact ⟨h.1,h.2.1⟩)
def Qn.Wgq (x:Qn):Prop:=(fun n=>(Lit.int .i64 n).wf=true) x.Client/\(fun n=>(Lit.int .i64 n).wf=true) x.Seq/\(fun n=>(Lit.int .i64 n).wf=true) x.Kind/\(fun xs=>xs.length<=maxLen/\∀ x∈xs,(Qa.Wgs) x) x.Pairs/\(Qb.Wa7) x.Over/\(fun n=>(Lit.int .i64 n).wf=true) x.Old
theorem Qn.Wjx:RD Tryz.prog 39 Qn.e Qn.Wgq:=
 Qma (e':=Qn.e) (wf':=Qn.Wgq) Tryz.underlying39 (by kernel_rfl) (Qgc (off:=0) (n:=1) (Qif Tryz.underlying3) rfl (by kernel_rfl) (Qgc (off:=1) (n:=1) (Qif Tryz.underlying3) rfl (by kernel_rfl) (Qgc (off:=2) (n:=1) (Qif Tryz.underlying3) rfl (by kernel_rfl) (Qgc (off:=3) (n:=1) (Qrw (k:=2) Qa.z Tryz.underlying37 (by kernel_rfl) (by decide) Qa.Wj0) rfl (by kernel_rfl) (Qgc (off:=4) (n:=2) Qb.Wja rfl (by kernel_rfl) (Qgc (off:=6) (n:=1) (Qif Tryz.underlying3) rfl (by kernel_rfl) (Qsy 7))))))) (fun p=>⟨p.1,p.2.1,p.2.2.1,p.2.2.2.1,p.2.2.2.2.1,p.2.2.2.2.2.1⟩) (by intro _;rfl) (by intro p h;exact ⟨h.1,h.2.1,h.2.2.1,h.2.2.2.1,h.2.2.2.2.1,h.2.2.2.2.2.1⟩)
def Qe.Wgr (x:Qe):Prop:=(Qn.Wgq) x.M/\(fun n=>(Lit.int .i64 n).wf=true) x.Time/\(fun _=>True) x.Qai
theorem Qe.Wjy:RD Tryz.prog 41 Qe.e Qe.Wgr:=
 Qma (e':=Qe.e) (wf':=Qe.Wgr) Tryz.underlying41 (by kernel_rfl) (Qgc (off:=0) (n:=7) Qn.Wjx rfl (by kernel_rfl) (Qgc (off:=7) (n:=1) (Qif Tryz.underlying3) rfl (by kernel_rfl) (Qgc (off:=8) (n:=1) (Wh6 Tryz.underlying4) rfl (by kernel_rfl) (Qsy 9)))) (fun p=>⟨p.1,p.2.1,p.2.2.1⟩) (by intro _;rfl) (by intro p h;exact ⟨h.1,h.2.1,h.2.2.1⟩)
def Qcy.Wje (x:Qcy):Prop:=(fun n=>(Lit.int .i64 n).wf=true) x.i0/\(fun n=>(Lit.int .i64 n).wf=true) x.i1
theorem Qcy.Wjz:RD Tryz.prog 59 Qcy.e Qcy.Wje:=Wh5 (k:=1) Tryz.underlying59 (by kernel_rfl) (by kernel_rfl) (Qif Tryz.underlying3) (fun a b=>⟨a,b⟩) (fun _ _=>rfl) (fun _ _ h1 h2=>⟨h1,h2⟩)
theorem said (a0:List Qe) (a1:List Qb) (a2:Qcy) (w0:(fun xs=>xs.length<=maxLen/\∀ x∈xs,(Qe.Wgr) x) a0) (w1:(fun xs=>xs.length<=maxLen/\∀ x∈xs,(Qb.Wa7) x) a1) (w2:(Qcy.Wje) a2):Zd Tryz.prog 4 [] [.d (.sl true a0.length (vec Qe.e Qe.z a0)),.d (.sl true a1.length (vec Qb.e Qb.z a1)),.d (.agg (Qcy.e a2))] [] (.d (.v (.bool true))):=by
 exact Qc.Wv a0 a1 a2 (Qkf a0 a1 a2)
set_option maxRecDepth 100000 in
theorem lifted (os:Os) (started:os.Started) (H:Type) (enc:TypeId × Value->H):
  ReturnsInHanded {} Tryz.checked os 4 .any (Rows.auditStepsSpec.pre6 enc Tryz.prog Tryz.f4 Rows.auditStepsRow.domain false) (Rows.auditStepsSpec.post enc Tryz.prog Tryz.f4 false true false false):=by
 refine returnsInHanded_of_change_sized (C:=Tryz.checked) own started (by kernel_rfl) Tryz.func4
  (ChangeSpec.witness6 (enc:=enc) (C:=Tryz.checked) false ⟨#[],#[.slice none 0 0,.slice none 0 0,.agg #[.int .i64 0,.int .i64 0]],[]⟩ 8 (by kernel_rfl) (by kernel_rfl) (by kernel_rfl) (by kernel_rfl)) ?_
 intro W base args ds gs before hval0 hW hcnd hsz0 _
 have Waa:∀ (j:Nat) t v,Tryz.f4.params[j]? = some t->args[j]? = some v->Value.okWide Tryz.prog W .any base t v:=hval0
 have hW':=hW
 obtain ⟨p,q,hA0,hV,rfl,hfz,hnd⟩:=hW
 have hA:DataW.TrodAll enc Tryz.prog W 0 (fun _=>true) true Tryz.f4.params.toList args.toList ds p:=hA0
 rw [Tryz.params4] at hA Waa
 obtain ⟨v0,vs0,d0,ds0,p0,q0,Qej,rfl,rfl,h0,r0⟩:=trodAll_cons hA
 obtain ⟨v1,vs1,d1,ds1,p1,q1,rfl,rfl,rfl,h1,r1⟩:=trodAll_cons r0
 obtain ⟨v2,vs2,d2,ds2,p2,q2,rfl,rfl,rfl,h2,r2⟩:=trodAll_cons r1
 obtain ⟨rfl,rfl,rfl⟩:=trodAll_nil r2
 obtain rfl:args=#[v0,v1,v2]:=by cases args;simp_all
 obtain ⟨rfl,rfl⟩:=trodVars_none hV
 have lt0:∀ x∈p0,x.block < W.heap.size:=by obtain ⟨m,hm⟩:=h0;exact DataW.trod_lt m _ _ _ hm
 obtain ⟨a0,x0,w0⟩:=Qtr (Qrw (k:=9) Qe.z Tryz.underlying22 (by kernel_rfl) (by decide) Qe.Wjy) h0
 obtain ⟨A0,len0,cap0,rfl⟩:=okWide_slice Tryz.underlying22 (Waa 0 22 v0 rfl rfl)
 have y0:=Wel (by simpa [Value.cells,eL,eI,eB,eS] using x0)
 have lt1:∀ x∈p1,x.block < W.heap.size:=by obtain ⟨m,hm⟩:=h1;exact DataW.trod_lt m _ _ _ hm
 obtain ⟨a1,x1,w1⟩:=Qtr (Qrw (k:=2) Qb.z Tryz.underlying34 (by kernel_rfl) (by decide) Qb.Wja) h1
 obtain ⟨A1,len1,cap1,rfl⟩:=okWide_slice Tryz.underlying34 (Waa 1 34 v1 rfl rfl)
 have y1:=Wel (by simpa [Value.cells,eL,eI,eB,eS] using x1)
 have lt2:∀ x∈p2,x.block < W.heap.size:=by obtain ⟨m,hm⟩:=h2;exact DataW.trod_lt m _ _ _ hm
 obtain ⟨a2,x2,w2⟩:=Qtr Qcy.Wjz h2
 obtain ⟨cs2,rfl,cz2⟩:=okWide_arr Tryz.underlying59 (Waa 2 59 v2 rfl rfl)
 have y2:VR W (okW W) (.agg (Qcy.e a2)) (.agg cs2):=by
  have:=VR.agg x2
  simpa [Value.cells] using this
 clear hA0 hval0 hsz0
 refine (Wdl (said a0 a1 a2 w0 w1 w2) (.cons (.d y0) (.cons (.d y1) (.cons (.d y2) .nil)))).mono fun e W' ⟨he,bel⟩=>?_
 subst he
 exact ⟨_,rfl,_,_,_,[],_,[],hW',trodAll_mk1 (shut_bool Tryz.underlying4 _),(trodAll_cons_mk (Below.trod laidOut (by kernel_rfl) (of_decide_eq_true (by kernel_rfl)) h0 bel lt0) (trodAll_cons_mk (Below.trod laidOut (by kernel_rfl) (of_decide_eq_true (by kernel_rfl)) h1 bel lt1) (trodAll_cons_mk (Below.trod laidOut (by kernel_rfl) (of_decide_eq_true (by kernel_rfl)) h2 bel lt2) trodAll_mk0))),rfl,bel.frame _,fun h=>by cases h⟩
theorem War:Rows.auditStepsRow.holds Tryz.pinned (OpenSpec.ofChange Rows.auditStepsSpec):=
 OpenClaim.holds_of_wide 4 Tryz.f4 rfl rfl rfl rfl rfl rfl rfl ⟨rfl,rfl,rfl,rfl,rfl⟩ rfl rfl rfl rfl rfl (by kernel_rfl) Tryz.func4 (by kernel_rfl)
  (of_decide_eq_true (by kernel_rfl)) (by unfold Func.isWrapper;first | (rw [if_pos (by decide +kernel)];kernel_rfl) | (rw [if_neg (by decide +kernel)];exact ⟨rfl,rfl⟩))
  (fun os started H enc _=>lifted os started H enc)
end Go.Proofs.YtdndobkfnmommaaGreat.auditSteps
namespace Go.Proofs.YtdndobkfnmommaaGreat
theorem auditSteps_holds:Rows.AuditStepsSaid:=auditSteps.War
#print axioms auditSteps_holds
end Go.Proofs.YtdndobkfnmommaaGreat
