/- The row of the law TopHeirs: from what the code says and the plain law to the statement. -/
import Derived.Test.YtdhmflhncidjaaaGreatRows
import Derived.Test.YtdhmflhncidjaaaGreatGthzCp2
import Derived.Test.YtdhmflhncidjaaaGreatPthzAB
import Derived.Test.YtdhmflhncidjaaaGreatSyRun
import Derived.WalkKit
import Derived.ProofKit
import Derived.OpenShut
import Derived.ShutString
import Derived.ChangeOld
import Derived.Below
import Derived.SizedLaws
import Derived.Carry
set_option linter.unusedVariables false
namespace Go.Proofs.YtdhmflhncidjaaaGreat.topHeirs
open Go.ChangeShapes Go.WideShapes Go.ChangeAt Go.RowKit Go.Sy Go.SyP
open Go.ChangeMaps (open_string shut_string)
theorem own:ownKnob Tryz.prog.godebug=none:=by kernel_rfl
theorem laidOut:laidOutB Tryz.prog=true:=by kernel_rfl
def Qa.Wlf (x:Qa):Prop:=(fun n=>(Lit.int .i64 n).wf=true) x.Key/\(fun n=>(Lit.int .i64 n).wf=true) x.Val
theorem Qa.Wqh:RD Tryz.prog 97 Qa.e Qa.Wlf:=
 Qq6 (e':=Qa.e) (wf':=Qa.Wlf) Tryz.underlying97 (by kernel_rfl) (Qh9 (off:=0) (n:=1) (Qkh Tryz.underlying3) rfl (by kernel_rfl) (Qh9 (off:=1) (n:=1) (Qkh Tryz.underlying3) rfl (by kernel_rfl) (Qz0 2))) (fun p=>⟨p.1,p.2.1⟩) (by intro _;rfl) (by intro p h;exact ⟨h.1,h.2.1⟩)
def Qb.Wld (x:Qb):Prop:=(fun n=>(Lit.int .i64 n).wf=true) x.Lo/\(fun n=>(Lit.int .i64 n).wf=true) x.Hi
theorem Qb.Wqf:RD Tryz.prog 24 Qb.e Qb.Wld:=
 Qq6 (e':=Qb.e) (wf':=Qb.Wld) Tryz.underlying24 (by kernel_rfl) (Qh9 (off:=0) (n:=1) (Qkh Tryz.underlying3) rfl (by kernel_rfl) (Qh9 (off:=1) (n:=1) (Qkh Tryz.underlying3) rfl (by kernel_rfl) (Qz0 2))) (fun p=>⟨p.1,p.2.1⟩) (by intro _;rfl) (by intro p h;exact ⟨h.1,h.2.1⟩)
def Qp.Wle (x:Qp):Prop:=(fun n=>(Lit.int .i64 n).wf=true) x.Client/\(fun n=>(Lit.int .i64 n).wf=true) x.Seq/\(fun n=>(Lit.int .i64 n).wf=true) x.Kind/\(fun xs=>xs.length<=maxLen/\∀ x∈xs,(Qa.Wlf) x) x.Pairs/\(Qb.Wld) x.Over/\(fun n=>(Lit.int .i64 n).wf=true) x.Old
theorem Qp.Wqg:RD Tryz.prog 35 Qp.e Qp.Wle:=
 Qq6 (e':=Qp.e) (wf':=Qp.Wle) Tryz.underlying35 (by kernel_rfl) (Qh9 (off:=0) (n:=1) (Qkh Tryz.underlying3) rfl (by kernel_rfl) (Qh9 (off:=1) (n:=1) (Qkh Tryz.underlying3) rfl (by kernel_rfl) (Qh9 (off:=2) (n:=1) (Qkh Tryz.underlying3) rfl (by kernel_rfl) (Qh9 (off:=3) (n:=1) (Qzy (k:=2) Qa.z Tryz.underlying26 (by kernel_rfl) (by decide) Qa.Wqh) rfl (by kernel_rfl) (Qh9 (off:=4) (n:=2) Qb.Wqf rfl (by kernel_rfl) (Qh9 (off:=6) (n:=1) (Qkh Tryz.underlying3) rfl (by kernel_rfl) (Qz0 7))))))) (fun p=>⟨p.1,p.2.1,p.2.2.1,p.2.2.2.1,p.2.2.2.2.1,p.2.2.2.2.2.1⟩) (by intro _;rfl) (by intro p h;exact ⟨h.1,h.2.1,h.2.2.1,h.2.2.2.1,h.2.2.2.2.1,h.2.2.2.2.2.1⟩)
theorem said (a0:List Qp) (a1:Int) (w0:(fun xs=>xs.length<=maxLen/\∀ x∈xs,(Qp.Wle) x) a0) (w1:(fun n=>(Lit.int .i64 n).wf=true) a1):Xt Tryz.prog 3 [] [.d (.sl true a0.length (vec Qp.e Qp.z a0)),.d (.v (.int .i64 a1))] [] (.d (.v (.bool true))):=by
 exact Qf.Qt a0 a1 (Qm6 a0 a1)
set_option maxRecDepth 100000 in
theorem lifted (os:Os) (started:os.Started) (H:Type) (enc:TypeId × Value->H):
  ReturnsInHanded {} Tryz.checked os 3 .any (Rows.topHeirsSpec.pre6 enc Tryz.prog Tryz.f3 Rows.topHeirsRow.domain false) (Rows.topHeirsSpec.post enc Tryz.prog Tryz.f3 false true false false):=by
 refine returnsInHanded_of_change_sized (C:=Tryz.checked) own started (by kernel_rfl) Tryz.func3
  (ChangeSpec.witness6 (enc:=enc) (C:=Tryz.checked) false ⟨#[],#[.slice none 0 0,.int .i64 0],[]⟩ 8 (by kernel_rfl) (by kernel_rfl) (by kernel_rfl) (by kernel_rfl)) ?_
 intro W base args ds gs before hval0 hW hcnd hsz0 _
 have Wj6:∀ (j:Nat) t v,Tryz.f3.params[j]? = some t->args[j]? = some v->Value.okWide Tryz.prog W .any base t v:=hval0
 have hW':=hW
 obtain ⟨p,q,hA0,hV,rfl,hfz,hnd⟩:=hW
 have hA:DataW.TrodAll enc Tryz.prog W 0 (fun _=>true) true Tryz.f3.params.toList args.toList ds p:=hA0
 rw [Tryz.params3] at hA Wj6
 obtain ⟨v0,vs0,d0,ds0,p0,q0,Qb5,rfl,rfl,h0,r0⟩:=trodAll_cons hA
 obtain ⟨v1,vs1,d1,ds1,p1,q1,rfl,rfl,rfl,h1,r1⟩:=trodAll_cons r0
 obtain ⟨rfl,rfl,rfl⟩:=trodAll_nil r1
 obtain rfl:args=#[v0,v1]:=by cases args;simp_all
 obtain ⟨rfl,rfl⟩:=trodVars_none hV
 have lt0:∀ x∈p0,x.block < W.heap.size:=by obtain ⟨m,hm⟩:=h0;exact DataW.trod_lt m _ _ _ hm
 obtain ⟨a0,x0,w0⟩:=Wbu (Qzy (k:=7) Qp.z Tryz.underlying22 (by kernel_rfl) (by decide) Qp.Wqg) h0
 obtain ⟨A0,len0,cap0,rfl⟩:=okWide_slice Tryz.underlying22 (Wj6 0 22 v0 rfl rfl)
 have y0:=Wit (by simpa [Value.cells,eL,eI,eB,eS] using x0)
 have lt1:∀ x∈p1,x.block < W.heap.size:=by obtain ⟨m,hm⟩:=h1;exact DataW.trod_lt m _ _ _ hm
 obtain ⟨a1,x1,w1⟩:=Wbu (Qkh Tryz.underlying3) h1
 obtain ⟨b1,rfl⟩:=okWide_int Tryz.underlying3 (Wj6 1 3 v1 rfl rfl)
 have y1:=Wit (by simpa [Value.cells,eL,eI,eB,eS] using x1)
 clear hA0 hval0 hsz0
 refine (Whi (said a0 a1 w0 w1) (.cons (.d y0) (.cons (.d y1) .nil))).mono fun e W' ⟨he,bel⟩=>?_
 subst he
 exact ⟨_,rfl,_,_,_,[],_,[],hW',trodAll_mk1 (shut_bool Tryz.underlying4 _),(trodAll_cons_mk (Below.trod laidOut (by kernel_rfl) (of_decide_eq_true (by kernel_rfl)) h0 bel lt0) (trodAll_cons_mk (Below.trod laidOut (by kernel_rfl) (of_decide_eq_true (by kernel_rfl)) h1 bel lt1) trodAll_mk0)),rfl,bel.frame _,fun h=>by cases h⟩
theorem Qzv:Rows.topHeirsRow.holds Tryz.pinned (OpenSpec.ofChange Rows.topHeirsSpec):=
 OpenClaim.holds_of_wide 3 Tryz.f3 rfl rfl rfl rfl rfl rfl rfl ⟨rfl,rfl,rfl,rfl,rfl⟩ rfl rfl rfl rfl rfl (by kernel_rfl) Tryz.func3 (by kernel_rfl)
  (of_decide_eq_true (by kernel_rfl)) (by unfold Func.isWrapper;first | (rw [if_pos (by decide +kernel)];kernel_rfl) | (rw [if_neg (by decide +kernel)];exact ⟨rfl,rfl⟩))
  (fun os started H enc _=>lifted os started H enc)
end Go.Proofs.YtdhmflhncidjaaaGreat.topHeirs
namespace Go.Proofs.YtdhmflhncidjaaaGreat
theorem topHeirs_holds:Rows.TopHeirsSaid:=topHeirs.Qzv
#print axioms topHeirs_holds
end Go.Proofs.YtdhmflhncidjaaaGreat
