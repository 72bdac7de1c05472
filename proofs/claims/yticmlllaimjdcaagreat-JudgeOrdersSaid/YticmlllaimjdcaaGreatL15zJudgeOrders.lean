/- The row of the law JudgeOrders: from what the code says and the plain law to the statement. -/
import Derived.Test.YticmlllaimjdcaaGreatRows
import Derived.Test.YticmlllaimjdcaaGreatG15zLCp2
import Derived.Test.YticmlllaimjdcaaGreatP15zY
import Derived.Test.YticmlllaimjdcaaGreatSyRA
import Derived.WalkKit
import Derived.ProofKit
import Derived.OpenShut
import Derived.ShutString
import Derived.ChangeOld
import Derived.Below
import Derived.SizedLaws
import Derived.Carry
set_option linter.unusedVariables false
namespace Go.Proofs.YticmlllaimjdcaaGreat.judgeOrders
open Go.ChangeShapes Go.WideShapes Go.ChangeAt Go.RowKit Go.Sy Go.SyP
open Go.ChangeMaps (open_string shut_string)
theorem own:ownKnob Tryz.prog.godebug=none:=by kernel_rfl
theorem laidOut:laidOutB Tryz.prog=true:=by kernel_rfl
def Qb.Wd1 (x:Qb):Prop:=(fun n=>(Lit.int .i64 n).wf=true) x.Lo/\(fun n=>(Lit.int .i64 n).wf=true) x.Hi
theorem Qb.Wl0:RD Tryz.prog 39 Qb.e Qb.Wd1:=
 Qih (e':=Qb.e) (wf':=Qb.Wd1) Tryz.underlying39 (by kernel_rfl) (Qcf (off:=0) (n:=1) (Qgh Tryz.underlying3) rfl (by kernel_rfl) (Qcf (off:=1) (n:=1) (Qgh Tryz.underlying3) rfl (by kernel_rfl) (Qmd 2))) (fun p=>⟨p.1,p.2.1⟩) (by intro _;rfl) (by intro p h;exact ⟨h.1,h.2.1⟩)
def Qa.Wd3 (x:Qa):Prop:=(fun n=>(Lit.int .i64 n).wf=true) x.Key/\(fun n=>(Lit.int .i64 n).wf=true) x.Val
theorem Qa.Wl2:RD Tryz.prog 56 Qa.e Qa.Wd3:=
 Qih (e':=Qa.e) (wf':=Qa.Wd3) Tryz.underlying56 (by kernel_rfl) (Qcf (off:=0) (n:=1) (Qgh Tryz.underlying3) rfl (by kernel_rfl) (Qcf (off:=1) (n:=1) (Qgh Tryz.underlying3) rfl (by kernel_rfl) (Qmd 2))) (fun p=>⟨p.1,p.2.1⟩) (by intro _;rfl) (by intro p h;exact ⟨h.1,h.2.1⟩)
def We.Wd2 (x:We):Prop:=(fun n=>(Lit.int .i64 n).wf=true) x.Client/\(fun n=>(Lit.int .i64 n).wf=true) x.Seq/\(fun n=>(Lit.int .i64 n).wf=true) x.Kind/\(fun xs=>xs.length<=maxLen/\∀ x∈xs,(Qa.Wd3) x) x.Pairs/\(Qb.Wd1) x.Over/\(fun n=>(Lit.int .i64 n).wf=true) x.Old
theorem We.Wl1:RD Tryz.prog 47 We.e We.Wd2:=
 Qih (e':=We.e) (wf':=We.Wd2) Tryz.underlying47 (by kernel_rfl) (Qcf (off:=0) (n:=1) (Qgh Tryz.underlying3) rfl (by kernel_rfl) (Qcf (off:=1) (n:=1) (Qgh Tryz.underlying3) rfl (by kernel_rfl) (Qcf (off:=2) (n:=1) (Qgh Tryz.underlying3) rfl (by kernel_rfl) (Qcf (off:=3) (n:=1) (Qkl (k:=2) Qa.z Tryz.underlying41 (by kernel_rfl) (by decide) Qa.Wl2) rfl (by kernel_rfl) (Qcf (off:=4) (n:=2) Qb.Wl0 rfl (by kernel_rfl) (Qcf (off:=6) (n:=1) (Qgh Tryz.underlying3) rfl (by kernel_rfl) (Qmd 7))))))) (fun p=>⟨p.1,p.2.1,p.2.2.1,p.2.2.2.1,p.2.2.2.2.1,p.2.2.2.2.2.1⟩) (by intro _;rfl) (by intro p h;exact ⟨h.1,h.2.1,h.2.2.1,h.2.2.2.1,h.2.2.2.2.1,h.2.2.2.2.2.1⟩)
def Qbb.Wdz (x:Qbb):Prop:=(fun n=>(Lit.int .i64 n).wf=true) x.Qo8/\(fun n=>(Lit.int .i64 n).wf=true) x.Time
theorem Qbb.Wmm:RD Tryz.prog 124 Qbb.e Qbb.Wdz:=
 Qih (e':=Qbb.e) (wf':=Qbb.Wdz) Tryz.underlying124 (by kernel_rfl) (Qcf (off:=0) (n:=1) (Qgh Tryz.underlying3) rfl (by kernel_rfl) (Qcf (off:=1) (n:=1) (Qgh Tryz.underlying3) rfl (by kernel_rfl) (Qmd 2))) (fun p=>⟨p.1,p.2.1⟩) (by intro _;rfl) (by intro p h;exact ⟨h.1,h.2.1⟩)
def Qr.Wjr (x:Qr):Prop:=(We.Wd2) x.M/\(fun n=>(Lit.int .i64 n).wf=true) x.Time/\(fun _=>True) x.Qcq/\(fun xs=>xs.length<=maxLen/\∀ x∈xs,(Qbb.Wdz) x) x.Qdk
theorem Qr.Wm3:RD Tryz.prog 94 Qr.e Qr.Wjr:=
 Qih (e':=Qr.e) (wf':=Qr.Wjr) Tryz.underlying94 (by kernel_rfl) (Qcf (off:=0) (n:=7) We.Wl1 rfl (by kernel_rfl) (Qcf (off:=7) (n:=1) (Qgh Tryz.underlying3) rfl (by kernel_rfl) (Qcf (off:=8) (n:=1) (Qou Tryz.underlying4) rfl (by kernel_rfl) (Qcf (off:=9) (n:=1) (Qkl (k:=2) Qbb.z Tryz.underlying92 (by kernel_rfl) (by decide) Qbb.Wmm) rfl (by kernel_rfl) (Qmd 10))))) (fun p=>⟨p.1,p.2.1,p.2.2.1,p.2.2.2.1⟩) (by intro _;rfl) (by intro p h;exact ⟨h.1,h.2.1,h.2.2.1,h.2.2.2.1⟩)
def Qc.Wjq (x:Qc):Prop:=(We.Wd2) x.M/\(fun n=>(Lit.int .i64 n).wf=true) x.Time/\(fun _=>True) x.Zw
theorem Qc.Wm2:RD Tryz.prog 50 Qc.e Qc.Wjq:=
 Qih (e':=Qc.e) (wf':=Qc.Wjq) Tryz.underlying50 (by kernel_rfl) (Qcf (off:=0) (n:=7) We.Wl1 rfl (by kernel_rfl) (Qcf (off:=7) (n:=1) (Qgh Tryz.underlying3) rfl (by kernel_rfl) (Qcf (off:=8) (n:=1) (Qou Tryz.underlying4) rfl (by kernel_rfl) (Qmd 9)))) (fun p=>⟨p.1,p.2.1,p.2.2.1⟩) (by intro _;rfl) (by intro p h;exact ⟨h.1,h.2.1,h.2.2.1⟩)
def Qo.Wd0 (x:Qo):Prop:=(fun n=>(Lit.int .i64 n).wf=true) x.Client/\(fun n=>(Lit.int .i64 n).wf=true) x.Seq/\(fun n=>(Lit.int .i64 n).wf=true) x.Time/\(fun _=>True) x.Zw
theorem Qo.Wmn:RD Tryz.prog 125 Qo.e Qo.Wd0:=
 Qih (e':=Qo.e) (wf':=Qo.Wd0) Tryz.underlying125 (by kernel_rfl) (Qcf (off:=0) (n:=1) (Qgh Tryz.underlying3) rfl (by kernel_rfl) (Qcf (off:=1) (n:=1) (Qgh Tryz.underlying3) rfl (by kernel_rfl) (Qcf (off:=2) (n:=1) (Qgh Tryz.underlying3) rfl (by kernel_rfl) (Qcf (off:=3) (n:=1) (Qou Tryz.underlying4) rfl (by kernel_rfl) (Qmd 4))))) (fun p=>⟨p.1,p.2.1,p.2.2.1,p.2.2.2.1⟩) (by intro _;rfl) (by intro p h;exact ⟨h.1,h.2.1,h.2.2.1,h.2.2.2.1⟩)
def Qm.Wjp (x:Qm):Prop:=(fun n=>(Lit.int .i64 n).wf=true) x.ID/\(Qb.Wd1) x.Keys/\(fun n=>(Lit.int .i64 n).wf=true) x.Clock/\(fun _=>True) x.Qa1/\(fun _=>True) x.Qag/\(fun xs=>xs.length<=maxLen/\∀ x∈xs,(Qr.Wjr) x) x.Held/\(fun xs=>xs.length<=maxLen/\∀ x∈xs,(Qa.Wd3) x) x.Base/\(fun xs=>xs.length<=maxLen/\∀ x∈xs,(Qc.Wjq) x) x.Log/\(fun xs=>xs.length<=maxLen/\∀ x∈xs,(Qo.Wd0) x) x.Qs
theorem Qm.Wm1:RD Tryz.prog 44 Qm.e Qm.Wjp:=
 Qih (e':=Qm.e) (wf':=Qm.Wjp) Tryz.underlying44 (by kernel_rfl) (Qcf (off:=0) (n:=1) (Qgh Tryz.underlying3) rfl (by kernel_rfl) (Qcf (off:=1) (n:=2) Qb.Wl0 rfl (by kernel_rfl) (Qcf (off:=3) (n:=1) (Qgh Tryz.underlying3) rfl (by kernel_rfl) (Qcf (off:=4) (n:=1) (Qou Tryz.underlying4) rfl (by kernel_rfl) (Qcf (off:=5) (n:=1) (Qou Tryz.underlying4) rfl (by kernel_rfl) (Qcf (off:=6) (n:=1) (Qkl (k:=10) Qr.z Tryz.underlying40 (by kernel_rfl) (by decide) Qr.Wm3) rfl (by kernel_rfl) (Qcf (off:=7) (n:=1) (Qkl (k:=2) Qa.z Tryz.underlying41 (by kernel_rfl) (by decide) Qa.Wl2) rfl (by kernel_rfl) (Qcf (off:=8) (n:=1) (Qkl (k:=9) Qc.z Tryz.underlying25 (by kernel_rfl) (by decide) Qc.Wm2) rfl (by kernel_rfl) (Qcf (off:=9) (n:=1) (Qkl (k:=4) Qo.z Tryz.underlying42 (by kernel_rfl) (by decide) Qo.Wmn) rfl (by kernel_rfl) (Qmd 10)))))))))) (fun p=>⟨p.1,p.2.1,p.2.2.1,p.2.2.2.1,p.2.2.2.2.1,p.2.2.2.2.2.1,p.2.2.2.2.2.2.1,p.2.2.2.2.2.2.2.1,p.2.2.2.2.2.2.2.2.1⟩) (by intro _;rfl) (by intro p h;exact ⟨h.1,h.2.1,h.2.2.1,h.2.2.2.1,h.2.2.2.2.1,h.2.2.2.2.2.1,h.2.2.2.2.2.2.1,h.2.2.2.2.2.2.2.1,h.2.2.2.2.2.2.2.2.1⟩)
theorem said (a0:List Qm) (w0:(fun xs=>xs.length<=maxLen/\∀ x∈xs,(Qm.Wjp) x) a0):Xz Tryz.prog 3 [] [.d (.sl true a0.length (vec Qm.e Qm.z a0))] [] (.d (.v (.bool true))):=by
 exact Qbh.Qy a0 (Qln a0)
set_option maxRecDepth 100000 in
theorem lifted (os:Os) (started:os.Started) (H:Type) (enc:TypeId × Value->H):
  ReturnsInHanded {} Tryz.checked os 3 .any (Rows.judgeOrdersSpec.pre6 enc Tryz.prog Tryz.f3 Rows.judgeOrdersRow.domain false) (Rows.judgeOrdersSpec.post enc Tryz.prog Tryz.f3 false true false false):=by
 refine returnsInHanded_of_change_sized (C:=Tryz.checked) own started (by kernel_rfl) Tryz.func3
  (ChangeSpec.witness6 (enc:=enc) (C:=Tryz.checked) false ⟨#[],#[.slice none 0 0],[]⟩ 8 (by kernel_rfl) (by kernel_rfl) (by kernel_rfl) (by kernel_rfl)) ?_
 intro W base args ds gs before hval0 hW hcnd hsz0 _
 have hval:∀ (j:Nat) t v,Tryz.f3.params[j]? = some t->args[j]? = some v->Value.okWide Tryz.prog W .any base t v:=hval0
 have hW':=hW
 obtain ⟨p,q,hA0,hV,rfl,hfz,hnd⟩:=hW
 have hA:DataW.TrodAll enc Tryz.prog W 0 (fun _=>true) true Tryz.f3.params.toList args.toList ds p:=hA0
 rw [Tryz.params3] at hA hval
 obtain ⟨v0,vs0,d0,ds0,p0,q0,Qfd,rfl,rfl,h0,r0⟩:=trodAll_cons hA
 obtain ⟨rfl,rfl,rfl⟩:=trodAll_nil r0
 obtain rfl:args=#[v0]:=by cases args;simp_all
 obtain ⟨rfl,rfl⟩:=trodVars_none hV
 have lt0:∀ x∈p0,x.block < W.heap.size:=by obtain ⟨m,hm⟩:=h0;exact DataW.trod_lt m _ _ _ hm
 obtain ⟨a0,x0,w0⟩:=Wkz (Qkl (k:=10) Qm.z Tryz.underlying22 (by kernel_rfl) (by decide) Qm.Wm1) h0
 obtain ⟨A0,len0,cap0,rfl⟩:=okWide_slice Tryz.underlying22 (hval 0 22 v0 rfl rfl)
 have y0:=Wmc (by simpa [Value.cells,eL,eI,eB,eS] using x0)
 clear hA0 hval0 hsz0
 refine (Wgk (said a0 w0) (.cons (.d y0) .nil)).mono fun e W' ⟨he,bel⟩=>?_
 subst he
 exact ⟨_,rfl,_,_,_,[],_,[],hW',trodAll_mk1 (shut_bool Tryz.underlying4 _),(trodAll_cons_mk (Below.trod laidOut (by kernel_rfl) (of_decide_eq_true (by kernel_rfl)) h0 bel lt0) trodAll_mk0),rfl,bel.frame _,fun h=>by cases h⟩
theorem Qtn:Rows.judgeOrdersRow.holds Tryz.pinned (OpenSpec.ofChange Rows.judgeOrdersSpec):=
 OpenClaim.holds_of_wide 3 Tryz.f3 rfl rfl rfl rfl rfl rfl rfl ⟨rfl,rfl,rfl,rfl,rfl⟩ rfl rfl rfl rfl rfl (by kernel_rfl) Tryz.func3 (by kernel_rfl)
  (of_decide_eq_true (by kernel_rfl)) (by unfold Func.isWrapper;first | (rw [if_pos (by decide +kernel)];kernel_rfl) | (rw [if_neg (by decide +kernel)];exact ⟨rfl,rfl⟩))
  (fun os started H enc _=>lifted os started H enc)
end Go.Proofs.YticmlllaimjdcaaGreat.judgeOrders
namespace Go.Proofs.YticmlllaimjdcaaGreat
theorem judgeOrders_holds:Rows.JudgeOrdersSaid:=judgeOrders.Qtn
#print axioms judgeOrders_holds
end Go.Proofs.YticmlllaimjdcaaGreat
