/- The row of the law JudgeAny: from what the code says and the plain law to the statement. -/
import Derived.Test.YticmlllaimjdcaaGreatRows
import Derived.Test.YticmlllaimjdcaaGreatG15zLCp1
import Derived.Test.YticmlllaimjdcaaGreatP15zY
import Derived.Test.YticmlllaimjdcaaGreatSyRA
import Derived.WalkKit
import Derived.ProofKit
import Derived.OpenShut
import Derived.ShutString
import Derived.ChangeOld
import Derived.Below
import Derived.SizedLaws
import Derived.Carry
set_option linter.unusedVariables false
namespace Go.Proofs.YticmlllaimjdcaaGreat.judgeAny
open Go.ChangeShapes Go.WideShapes Go.ChangeAt Go.RowKit Go.Sy Go.SyP
open Go.ChangeMaps (open_string shut_string)
theorem own:ownKnob Tryz.prog.godebug=none:=by kernel_rfl
theorem laidOut:laidOutB Tryz.prog=true:=by kernel_rfl
def Qb.Wch (x:Qb):Prop:=(fun n=>(Lit.int .i64 n).wf=true) x.Lo/\(fun n=>(Lit.int .i64 n).wf=true) x.Hi
theorem Qb.Wj6:RD Tryz.prog 39 Qb.e Qb.Wch:=
 Qhd (e':=Qb.e) (wf':=Qb.Wch) Tryz.underlying39 (by kernel_rfl) (Qbw (off:=0) (n:=1) (Qfs Tryz.underlying3) rfl (by kernel_rfl) (Qbw (off:=1) (n:=1) (Qfs Tryz.underlying3) rfl (by kernel_rfl) (Qlf 2))) (fun p=>⟨p.1,p.2.1⟩) (by intro _;rfl) (by intro p h;exact ⟨h.1,h.2.1⟩)
def Qa.Wcj (x:Qa):Prop:=(fun n=>(Lit.int .i64 n).wf=true) x.Key/\(fun n=>(Lit.int .i64 n).wf=true) x.Val
theorem Qa.Wj8:RD Tryz.prog 56 Qa.e Qa.Wcj:=
 Qhd (e':=Qa.e) (wf':=Qa.Wcj) Tryz.underlying56 (by kernel_rfl) (Qbw (off:=0) (n:=1) (Qfs Tryz.underlying3) rfl (by kernel_rfl) (Qbw (off:=1) (n:=1) (Qfs Tryz.underlying3) rfl (by kernel_rfl) (Qlf 2))) (fun p=>⟨p.1,p.2.1⟩) (by intro _;rfl) (by intro p h;exact ⟨h.1,h.2.1⟩)
def Qu.Wci (x:Qu):Prop:=(fun n=>(Lit.int .i64 n).wf=true) x.Client/\(fun n=>(Lit.int .i64 n).wf=true) x.Seq/\(fun n=>(Lit.int .i64 n).wf=true) x.Kind/\(fun xs=>xs.length<=maxLen/\∀ x∈xs,(Qa.Wcj) x) x.Pairs/\(Qb.Wch) x.Over/\(fun n=>(Lit.int .i64 n).wf=true) x.Old
theorem Qu.Wj7:RD Tryz.prog 47 Qu.e Qu.Wci:=
 Qhd (e':=Qu.e) (wf':=Qu.Wci) Tryz.underlying47 (by kernel_rfl) (Qbw (off:=0) (n:=1) (Qfs Tryz.underlying3) rfl (by kernel_rfl) (Qbw (off:=1) (n:=1) (Qfs Tryz.underlying3) rfl (by kernel_rfl) (Qbw (off:=2) (n:=1) (Qfs Tryz.underlying3) rfl (by kernel_rfl) (Qbw (off:=3) (n:=1) (Qjj (k:=2) Qa.z Tryz.underlying41 (by kernel_rfl) (by decide) Qa.Wj8) rfl (by kernel_rfl) (Qbw (off:=4) (n:=2) Qb.Wj6 rfl (by kernel_rfl) (Qbw (off:=6) (n:=1) (Qfs Tryz.underlying3) rfl (by kernel_rfl) (Qlf 7))))))) (fun p=>⟨p.1,p.2.1,p.2.2.1,p.2.2.2.1,p.2.2.2.2.1,p.2.2.2.2.2.1⟩) (by intro _;rfl) (by intro p h;exact ⟨h.1,h.2.1,h.2.2.1,h.2.2.2.1,h.2.2.2.2.1,h.2.2.2.2.2.1⟩)
def Qcf.Wcf (x:Qcf):Prop:=(fun n=>(Lit.int .i64 n).wf=true) x.Qqr/\(fun n=>(Lit.int .i64 n).wf=true) x.Time
theorem Qcf.Wkp:RD Tryz.prog 124 Qcf.e Qcf.Wcf:=
 Qhd (e':=Qcf.e) (wf':=Qcf.Wcf) Tryz.underlying124 (by kernel_rfl) (Qbw (off:=0) (n:=1) (Qfs Tryz.underlying3) rfl (by kernel_rfl) (Qbw (off:=1) (n:=1) (Qfs Tryz.underlying3) rfl (by kernel_rfl) (Qlf 2))) (fun p=>⟨p.1,p.2.1⟩) (by intro _;rfl) (by intro p h;exact ⟨h.1,h.2.1⟩)
def Qr.Wh1 (x:Qr):Prop:=(Qu.Wci) x.M/\(fun n=>(Lit.int .i64 n).wf=true) x.Time/\(fun _=>True) x.Qda/\(fun xs=>xs.length<=maxLen/\∀ x∈xs,(Qcf.Wcf) x) x.Qep
theorem Qr.Wlg:RD Tryz.prog 94 Qr.e Qr.Wh1:=
 Qhd (e':=Qr.e) (wf':=Qr.Wh1) Tryz.underlying94 (by kernel_rfl) (Qbw (off:=0) (n:=7) Qu.Wj7 rfl (by kernel_rfl) (Qbw (off:=7) (n:=1) (Qfs Tryz.underlying3) rfl (by kernel_rfl) (Qbw (off:=8) (n:=1) (Qny Tryz.underlying4) rfl (by kernel_rfl) (Qbw (off:=9) (n:=1) (Qjj (k:=2) Qcf.z Tryz.underlying92 (by kernel_rfl) (by decide) Qcf.Wkp) rfl (by kernel_rfl) (Qlf 10))))) (fun p=>⟨p.1,p.2.1,p.2.2.1,p.2.2.2.1⟩) (by intro _;rfl) (by intro p h;exact ⟨h.1,h.2.1,h.2.2.1,h.2.2.2.1⟩)
def Qc.Wh0 (x:Qc):Prop:=(Qu.Wci) x.M/\(fun n=>(Lit.int .i64 n).wf=true) x.Time/\(fun _=>True) x.Jc
theorem Qc.Wlf:RD Tryz.prog 50 Qc.e Qc.Wh0:=
 Qhd (e':=Qc.e) (wf':=Qc.Wh0) Tryz.underlying50 (by kernel_rfl) (Qbw (off:=0) (n:=7) Qu.Wj7 rfl (by kernel_rfl) (Qbw (off:=7) (n:=1) (Qfs Tryz.underlying3) rfl (by kernel_rfl) (Qbw (off:=8) (n:=1) (Qny Tryz.underlying4) rfl (by kernel_rfl) (Qlf 9)))) (fun p=>⟨p.1,p.2.1,p.2.2.1⟩) (by intro _;rfl) (by intro p h;exact ⟨h.1,h.2.1,h.2.2.1⟩)
def Ql.Wcg (x:Ql):Prop:=(fun n=>(Lit.int .i64 n).wf=true) x.Client/\(fun n=>(Lit.int .i64 n).wf=true) x.Seq/\(fun n=>(Lit.int .i64 n).wf=true) x.Time/\(fun _=>True) x.Jc
theorem Ql.Wkq:RD Tryz.prog 125 Ql.e Ql.Wcg:=
 Qhd (e':=Ql.e) (wf':=Ql.Wcg) Tryz.underlying125 (by kernel_rfl) (Qbw (off:=0) (n:=1) (Qfs Tryz.underlying3) rfl (by kernel_rfl) (Qbw (off:=1) (n:=1) (Qfs Tryz.underlying3) rfl (by kernel_rfl) (Qbw (off:=2) (n:=1) (Qfs Tryz.underlying3) rfl (by kernel_rfl) (Qbw (off:=3) (n:=1) (Qny Tryz.underlying4) rfl (by kernel_rfl) (Qlf 4))))) (fun p=>⟨p.1,p.2.1,p.2.2.1,p.2.2.2.1⟩) (by intro _;rfl) (by intro p h;exact ⟨h.1,h.2.1,h.2.2.1,h.2.2.2.1⟩)
def Qf.Whz (x:Qf):Prop:=(fun n=>(Lit.int .i64 n).wf=true) x.ID/\(Qb.Wch) x.Keys/\(fun n=>(Lit.int .i64 n).wf=true) x.Clock/\(fun _=>True) x.Qdd/\(fun _=>True) x.Qb6/\(fun xs=>xs.length<=maxLen/\∀ x∈xs,(Qr.Wh1) x) x.Held/\(fun xs=>xs.length<=maxLen/\∀ x∈xs,(Qa.Wcj) x) x.Base/\(fun xs=>xs.length<=maxLen/\∀ x∈xs,(Qc.Wh0) x) x.Log/\(fun xs=>xs.length<=maxLen/\∀ x∈xs,(Ql.Wcg) x) x.Qw
theorem Qf.Wle:RD Tryz.prog 44 Qf.e Qf.Whz:=
 Qhd (e':=Qf.e) (wf':=Qf.Whz) Tryz.underlying44 (by kernel_rfl) (Qbw (off:=0) (n:=1) (Qfs Tryz.underlying3) rfl (by kernel_rfl) (Qbw (off:=1) (n:=2) Qb.Wj6 rfl (by kernel_rfl) (Qbw (off:=3) (n:=1) (Qfs Tryz.underlying3) rfl (by kernel_rfl) (Qbw (off:=4) (n:=1) (Qny Tryz.underlying4) rfl (by kernel_rfl) (Qbw (off:=5) (n:=1) (Qny Tryz.underlying4) rfl (by kernel_rfl) (Qbw (off:=6) (n:=1) (Qjj (k:=10) Qr.z Tryz.underlying40 (by kernel_rfl) (by decide) Qr.Wlg) rfl (by kernel_rfl) (Qbw (off:=7) (n:=1) (Qjj (k:=2) Qa.z Tryz.underlying41 (by kernel_rfl) (by decide) Qa.Wj8) rfl (by kernel_rfl) (Qbw (off:=8) (n:=1) (Qjj (k:=9) Qc.z Tryz.underlying25 (by kernel_rfl) (by decide) Qc.Wlf) rfl (by kernel_rfl) (Qbw (off:=9) (n:=1) (Qjj (k:=4) Ql.z Tryz.underlying42 (by kernel_rfl) (by decide) Ql.Wkq) rfl (by kernel_rfl) (Qlf 10)))))))))) (fun p=>⟨p.1,p.2.1,p.2.2.1,p.2.2.2.1,p.2.2.2.2.1,p.2.2.2.2.2.1,p.2.2.2.2.2.2.1,p.2.2.2.2.2.2.2.1,p.2.2.2.2.2.2.2.2.1⟩) (by intro _;rfl) (by intro p h;exact ⟨h.1,h.2.1,h.2.2.1,h.2.2.2.1,h.2.2.2.2.1,h.2.2.2.2.2.1,h.2.2.2.2.2.2.1,h.2.2.2.2.2.2.2.1,h.2.2.2.2.2.2.2.2.1⟩)
theorem said (a0:List Qf) (w0:(fun xs=>xs.length<=maxLen/\∀ x∈xs,(Qf.Whz) x) a0):Yn Tryz.prog 4 [] [.d (.sl true a0.length (vec Qf.e Qf.z a0))] [] (.d (.v (.bool true))):=by
 exact Qp.Wl a0 (Qlt a0)
set_option maxRecDepth 100000 in
theorem lifted (os:Os) (started:os.Started) (H:Type) (enc:TypeId × Value->H):
  ReturnsInHanded {} Tryz.checked os 4 .any (Rows.judgeAnySpec.pre6 enc Tryz.prog Tryz.f4 Rows.judgeAnyRow.domain false) (Rows.judgeAnySpec.post enc Tryz.prog Tryz.f4 false true false false):=by
 refine returnsInHanded_of_change_sized (C:=Tryz.checked) own started (by kernel_rfl) Tryz.func4
  (ChangeSpec.witness6 (enc:=enc) (C:=Tryz.checked) false ⟨#[],#[.slice none 0 0],[]⟩ 8 (by kernel_rfl) (by kernel_rfl) (by kernel_rfl) (by kernel_rfl)) ?_
 intro W base args ds gs before hval0 hW hcnd hsz0 _
 have hval:∀ (j:Nat) t v,Tryz.f4.params[j]? = some t->args[j]? = some v->Value.okWide Tryz.prog W .any base t v:=hval0
 have hW':=hW
 obtain ⟨p,q,hA0,hV,rfl,hfz,hnd⟩:=hW
 have hA:DataW.TrodAll enc Tryz.prog W 0 (fun _=>true) true Tryz.f4.params.toList args.toList ds p:=hA0
 rw [Tryz.params4] at hA hval
 obtain ⟨v0,vs0,d0,ds0,p0,q0,Qeq,rfl,rfl,h0,r0⟩:=trodAll_cons hA
 obtain ⟨rfl,rfl,rfl⟩:=trodAll_nil r0
 obtain rfl:args=#[v0]:=by cases args;simp_all
 obtain ⟨rfl,rfl⟩:=trodVars_none hV
 have lt0:∀ x∈p0,x.block < W.heap.size:=by obtain ⟨m,hm⟩:=h0;exact DataW.trod_lt m _ _ _ hm
 obtain ⟨a0,x0,w0⟩:=Wjb (Qjj (k:=10) Qf.z Tryz.underlying22 (by kernel_rfl) (by decide) Qf.Wle) h0
 obtain ⟨A0,len0,cap0,rfl⟩:=okWide_slice Tryz.underlying22 (hval 0 22 v0 rfl rfl)
 have y0:=Wke (by simpa [Value.cells,eL,eI,eB,eS] using x0)
 clear hA0 hval0 hsz0
 refine (Wev (said a0 w0) (.cons (.d y0) .nil)).mono fun e W' ⟨he,bel⟩=>?_
 subst he
 exact ⟨_,rfl,_,_,_,[],_,[],hW',trodAll_mk1 (shut_bool Tryz.underlying4 _),(trodAll_cons_mk (Below.trod laidOut (by kernel_rfl) (of_decide_eq_true (by kernel_rfl)) h0 bel lt0) trodAll_mk0),rfl,bel.frame _,fun h=>by cases h⟩
theorem Qsn:Rows.judgeAnyRow.holds Tryz.pinned (OpenSpec.ofChange Rows.judgeAnySpec):=
 OpenClaim.holds_of_wide 4 Tryz.f4 rfl rfl rfl rfl rfl rfl rfl ⟨rfl,rfl,rfl,rfl,rfl⟩ rfl rfl rfl rfl rfl (by kernel_rfl) Tryz.func4 (by kernel_rfl)
  (of_decide_eq_true (by kernel_rfl)) (by unfold Func.isWrapper;first | (rw [if_pos (by decide +kernel)];kernel_rfl) | (rw [if_neg (by decide +kernel)];exact ⟨rfl,rfl⟩))
  (fun os started H enc _=>lifted os started H enc)
end Go.Proofs.YticmlllaimjdcaaGreat.judgeAny
namespace Go.Proofs.YticmlllaimjdcaaGreat
theorem judgeAny_holds:Rows.JudgeAnySaid:=judgeAny.Qsn
#print axioms judgeAny_holds
end Go.Proofs.YticmlllaimjdcaaGreat
