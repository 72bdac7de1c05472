/- Cores: which may be. -/
import Derived.Test.YtdhmflhncidjaaaGreatPthzN
set_option linter.unusedVariables false
set_option linter.unusedSimpArgs false
namespace Go.SyP
open Go Go.Sy Sets
def stE (e:Qe):Qbu:=⟨e.Time,e.M.Client,e.M.Seq⟩
theorem Wpi {i:Nat} (h:0 < i) (hn:i<=5000):IntKind.wrap .i64 ((i:Int) - 1)=((i - 1:Nat):Int):=by rw [wr (by omega)];omega
def Wns (c:Qc) (i:Nat):Prop:=(1<=(c.Known.getD i Qg.z).Client/\(c.Known.getD i Qg.z).Client<=1048576)/\(1<=(c.Known.getD i Qg.z).Seq/\(c.Known.getD i Qg.z).Seq<=1073741824) /\
 (0<=(c.Known.getD i Qg.z).Time/\(c.Known.getD i Qg.z).Time<=1099511627775)/\(0 < i->KL (c.Known.getD (i - 1) Qg.z) (c.Known.getD i Qg.z))
def Qxw (c:Qc):Prop:=∀ i,i < c.Known.length->Wns c i
theorem Qxw.s {c:Qc} (h:Qxw c):KnS c.Known:=by
 intro i j hij hj
 have key:∀ d,∀ i,i+d+1 < c.Known.length->KL (c.Known.getD i Qg.z) (c.Known.getD (i+d+1) Qg.z):=by
  intro d
  induction d with
  | zero=>intro i hi;exact (h (i+1) hi).2.2.2 (by omega)
  | succ d ih=>
   intro i hi
   have h1:=ih i (by omega)
   have h2:=(h (i+(d+1)+1) hi).2.2.2 (by omega)
   rw [show i+(d+1)+1 - 1=i+d+1 by omega] at h2
   unfold KL at *
   omega
 have:=key (j - i - 1) i (by omega)
 rwa [show i+(j - i - 1)+1=j by omega] at this
theorem Qyp {σ:Type} {step:σ->Option (σ ⊕ Bool)} {n:Nat} (st:Nat->σ) (Qhb:step (st n)=some (.inr true)) (Qay:∀ i,i < n->step (st i)=some (.inl (st (i+1)))):Yy step (st 0)=some true:=by
 obtain ⟨r,h1,h2⟩:=Qd7 (step:=step) (n:=n) (fun i (_:Unit)=>st i) (fun _ _=>True) (fun r=>r=true) (fun _ _=>⟨true,Qhb,rfl⟩) (fun i _ hi _=>.inl ⟨(),Qay i hi,trivial⟩) 0 () (Nat.zero_le _) trivial
 rw [h1,h2]
theorem Wkb {c:Qc} (hn:c.Known.length<=5000) (h:Qxw c):Xm c=some true:=by
 unfold Xm
 refine Qyp (step:=Xm.step c) (n:=c.Known.length) (fun i=>.l1 (i:Int)) (by simp [Xm.step,Xm.l1]) (fun i hi=>?_)
 obtain ⟨a1,a2,a3,a5⟩:=h i hi
 have Qay:(0:Int)<=(i:Int)/\(i:Int) < (c.Known.length:Int):=by omega
 simp only [Xm.step,Xm.l1,Xm.j1,Qdc,Qay.2,if_true,Qay,and_self,show (i:Int).toNat=i from rfl,wr1 hi (by omega:c.Known.length<=9223372036854775807),Qqs,Qu5,Option.bind_some]
 rw [if_pos a1,if_pos a2,if_pos a3]
 by_cases a4:(i:Int) > 0
 ·rw [if_pos a4,Wpi (by omega) (by omega),if_pos (by omega),show ((i - 1:Nat):Int).toNat=i - 1 from rfl]
  have:=(Qrk _ _).2 (a5 (by omega))
  rw [decide_eq_false (by omega)]
  rfl
 rw [if_neg a4]
 rfl
theorem Qso {c:Qc} {m:Qp} (hm:mOk m=true) (hs:SOk [c.Keys]):Qg9 c m=some (Qvr m [c.Keys]):=by
 obtain ⟨T,t1,t2,t3,t4⟩:=Wio hm hs
 unfold Qg9 Zx bnd
 rw [t1,Option.bind_some]
 simp only []
 rw [t4]
 rfl
def Wp2 (c:Qc) (i:Nat):Prop:=mOk (c.Log.getD i Qe.z).M=true/\Qvr (c.Log.getD i Qe.z).M [c.Keys]=true/\(0<=(c.Log.getD i Qe.z).Time/\(c.Log.getD i Qe.z).Time<=c.Clock) /\
 (0 < i->ltS (stE (c.Log.getD (i - 1) Qe.z)) (stE (c.Log.getD i Qe.z))) /\
 ∃ j,j < c.Known.length/\isW (c.Log.getD i Qe.z).M.Client (c.Log.getD i Qe.z).M.Seq (c.Known.getD j Qg.z)/\(c.Known.getD j Qg.z).Time=(c.Log.getD i Qe.z).Time/\(c.Known.getD j Qg.z).Qa3=(c.Log.getD i Qe.z).Qa3
def Wnt (c:Qc):Prop:=(∀ i,i < c.Log.length->Wp2 c i)/\c.Log.length<=c.Known.length
theorem Wmg {c:Qc} (hf:Qxs c) (hs:SOk [c.Keys]) (hk:KnS c.Known) (h:Wnt c):Wv c=some true:=by
 have hkn:=hf.known
 have hlg:=hf.log
 unfold Wv
 refine Qyp (step:=Wv.step c) (n:=c.Log.length) (fun i=>.l1 (i:Int)) (by have:=h.2;simp [Wv.step,Wv.l1,this]) (fun i hi=>?_)
 obtain ⟨a1,a2,a3,ho,q,b1,b2,b3,b4⟩:=h.1 i hi
 have hp:=hf.lp _ (Qgl (z:=Qe.z) hi)
 have Qay:(0:Int)<=(i:Int)/\(i:Int) < (c.Log.length:Int):=by omega
 simp only [Wv.step,Wv.l1,Qay.2,if_true,Qay,and_self,show (i:Int).toNat=i from rfl]
 rw [Qge _ (by omega),Option.bind_some,if_pos a1,Qso a1 hs,Option.bind_some,if_pos a2,(Qqs _ _ _).2 a3]
 simp only [Wv.j1,Bool.not_true,Bool.false_eq_true,if_false]
 obtain ⟨r,b,f1,f2,f3⟩:=Qwj (c:=c) (c.Log.getD i Qe.z).M.Client (c.Log.getD i Qe.z).M.Seq (by omega) hk
 have j2:Wv.j2 c (i:Int) false=some (.inl (.l1 ((i+1:Nat):Int))):=by
  unfold Wv.j2 Wv.j3
  simp only [Bool.false_eq_true,if_false,show (i:Int).toNat=i from rfl,wr1 hi (by omega:c.Log.length<=9223372036854775807)]
  rw [f1,Option.bind_some]
  cases b with
  | false=>exact absurd b2 (f3 rfl q b1)
  | true=>
   obtain ⟨g1,g2⟩:=f2 rfl
   obtain rfl:=hk.uniq b1 g1 b2 g2
   simp only [if_true,show (q:Int).toNat=q from rfl]
   rw [if_pos (by omega),if_pos b3,b4]
   simp
 by_cases a4:(i:Int) > 0
 ·rw [if_pos a4,Wpi (by omega) (by omega),if_pos (by omega),show ((i - 1:Nat):Int).toNat=i - 1 from rfl,show (i:Int).toNat=i from rfl]
  rw [show Qdf (c.Log.getD (i - 1) Qe.z).Time (c.Log.getD (i - 1) Qe.z).M=stE (c.Log.getD (i - 1) Qe.z) from rfl,show Qdf (c.Log.getD i Qe.z).Time (c.Log.getD i Qe.z).M=stE (c.Log.getD i Qe.z) from rfl,Qvi,Option.bind_some]
  have:=(Wmb _ _).2 (ho (by omega))
  rw [decide_eq_false (by omega)]
  exact j2
 rw [if_neg a4]
 exact j2
end Go.SyP
namespace Go.SyP
open Go Go.Sy Sets
theorem Wlc {c:Qc} (h:c.Held=[]):Qb8 c=some true:=by
 unfold Qb8
 rw [Ya]
 simp only [Qb8.step]
 unfold Qb8.l1
 simp [h,Jq]
structure Qxr (c:Qc):Prop where
 id:1<=c.ID/\c.ID<=65536
 keys:Ok (pa c.Keys)
 clock:0<=c.Clock/\c.Clock<=1099511627775
 base:Tb c.Base
 bk:∀ x∈c.Base,c.Keys.Lo<=x.Key/\x.Key < c.Keys.Hi
 seal_:c.Wn=true->c.Ws=true/\c.Held.length=0
 kn:Qxw c
 lg:Wnt c
theorem Wol {c:Qc} (hf:Qxs c):¬ (IntKind.wrap .i64 ((c.Held.length:Int)+(c.Known.length:Int)) > 1000):=by
 have h1:=hf.held
 have h2:=hf.known
 rw [wr (by omega)]
 omega
theorem Wje {l:List Qa} {x:Qb} (hx:Ok (pa x)):(clip l [x]).length=l.length↔∀ p∈l,x.Lo<=p.Key/\p.Key < x.Hi:=by
 unfold clip
 rw [List.length_filter_eq_length_iff]
 refine forall_congr' fun p=>forall_congr' fun _=>?_
 rw [Qmt hx]
 simp
theorem Qw7 {c:Qc} (hf:Qxs c) (h0:c.Held=[]) (h:Qxr c):Jg c=some true:=by
 have hb:=hf.base
 have j2:Jg.j2 c false=some true:=by
  unfold Jg.j2 Jg.j3
  rw [if_neg (by simp),Wkb (by have:=hf.known;omega) h.kn,Option.bind_some,if_pos rfl,Wmg hf (Qn6 h.keys) h.kn.s h.lg,Option.bind_some,if_pos rfl,Wlc h0]
  rfl
 obtain ⟨r,q1,q2⟩:=Qf7 c.Base (by omega)
 unfold Jg Qdc
 rw [Qjj,if_pos ((Qqs _ _ _).2 h.id),if_pos (decide_eq_true h.keys),if_pos ((Qqs _ _ _).2 h.clock),decide_eq_false (Wol hf)]
 unfold Jg.j1
 rw [if_neg (by simp),q1,q2.2 h.base,Option.bind_some,if_pos rfl,show Zx c=[c.Keys] from rfl,Qv3 (by omega) (by simp) h.base (Qn6 h.keys),Option.bind_some,if_pos (by rw [(Wje h.keys).2 h.bk])]
 by_cases hS:c.Wn=true
 ·rw [if_pos hS,if_pos (h.seal_ hS).1,decide_eq_false (by rw [h0];simp)]
  exact j2
 rw [if_neg hS]
 exact j2
end Go.SyP
