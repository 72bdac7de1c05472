/- What an operation without memory makes of abstract values. -/
import Derived.Test.YtdhmflhncidjaaaGreatSyA
import Derived.Laws.Tables
import Derived.Laws.StructEq
set_option linter.unusedVariables false
set_option linter.unusedSimpArgs false
namespace Go.Sy
structure Tab where
 info:List (TypeId × (Nat × Nat × List Value)):=[]
 Qkp:List (TypeId × Bool):=[]
 Qn2:List ((TypeId × Nat) × (Nat × TypeId)):=[]
 Qbn:List (TypeId × TypeId):=[]
 strs:List TypeId:=[]
 ints:List (TypeId × IntKind):=[]
 Qs1:List (TypeId × (Nat × TypeId)):=[]
 has:List TypeId:=[]
 Qkg:List (TypeId × TypeId):=[]
 Qly:List TypeId:=[]
 Qux:List (TypeId × List (Nat × Nat)):=[]
 eqs:List (TypeId × List Nat):=[]
def zeq:Value->Value->Bool
 | .int k n,.int k' n'=>k == k' && n == n'
 | .bool b,.bool b'=>b == b'
 | .string s,.string s'=>s.data.isEmpty && s'.data.isEmpty
 | .pointer none,.pointer none=>true
 | .slice none a b,.slice none a' b'=>Nat.beq a a' && Nat.beq b b'
 | .map none,.map none=>true
 | .chan none,.chan none=>true
 | .nilFunc,.nilFunc=>true
 | .nilIface,.nilIface=>true
 | _,_=>false
theorem Wpj {a b:Value} (h:zeq a b=true):a=b:=by
 unfold zeq at h
 split at h<;>simp_all
 rename_i s s'
 obtain ⟨⟨s⟩⟩:=s
 obtain ⟨⟨s'⟩⟩:=s'
 simp_all
def Qv2:List Value->List Value->Bool
 | [],[]=>true
 | a :: as,b :: bs=>zeq a b && Qv2 as bs
 | _,_=>false
theorem Wb0:∀ {a b:List Value},Qv2 a b=true->a=b
 | [],[],_=>rfl
 | a :: as,b :: bs,h=>by
  simp only [Qv2,Bool.and_eq_true] at h
  rw [Wpj h.1,Wb0 h.2]
 | [],_ :: _,h=>by simp [Qv2] at h
 | _ :: _,[],h=>by simp [Qv2] at h
def Wh2 (P:Program) (e:TypeId × (Nat × Nat × List Value)):Bool:=
 match P.info? e.1 with
 | some i=>Nat.beq i.size e.2.1 && Nat.beq i.bytes e.2.2.1 && (match i.zero with | some z=>Qv2 z.cells.toList e.2.2.2 | none=>false)
 | none=>false
def Whc:TypeDesc->Bool
 | .struct _=>true
 | .array _ _=>true
 | _=>false
def Wlr (P:Program) (e:TypeId × Bool):Bool:=
 match P.underlying e.1 with
 | some d=>Whc d == e.2
 | none=>false
def Wln (f:Nat):TypeDesc->Option (Nat × TypeId)
 | .struct fs=>fs[f]?.map fun F=>(F.offset,F.type)
 | _=>none
def Wlt (P:Program) (e:(TypeId × Nat) × (Nat × TypeId)):Bool:=
 match P.underlying e.1.1 with
 | some d=>
  match Wln e.1.2 d with
  | some r=>Nat.beq r.1 e.2.1 && Nat.beq r.2 e.2.2
  | none=>false
 | none=>false
def Qke (P:Program) (t:TypeId) (p:TypeDesc->Bool):Bool:=
 match P.underlying t with
 | some d=>p d
 | none=>false
def Qzd (e:TypeId):TypeDesc->Bool
 | .slice e'=>Nat.beq e' e
 | _=>false
def Whg:TypeDesc->Bool
 | .string=>true
 | _=>false
def Wbl:TypeDesc->Bool
 | .bool=>true
 | _=>false
def Whe (k:IntKind):TypeDesc->Bool
 | .int k'=>k' == k
 | _=>false
def Whd (n e:Nat):TypeDesc->Bool
 | .array n' e'=>Nat.beq n' n && Nat.beq e' e
 | _=>false
def Whf (e:TypeId):TypeDesc->Bool
 | .pointer e'=>Nat.beq e' e
 | _=>false
theorem Qiq {P:Program} {t:TypeId} {p:TypeDesc->Bool} (h:Qke P t p=true):∃ d,P.underlying t=some d/\p d=true:=by
 unfold Qke at h
 split at h
 ·exact ⟨_,‹_›,h⟩
 cases h
def All {α:Type} (p:α->Prop):List α->Prop
 | []=>True
 | x :: xs=>p x/\All p xs
theorem All.mem {α:Type} {p:α->Prop}:∀ {l:List α},All p l->∀ x∈l,p x
 | [],_,_,h=>by cases h
 | _ :: _,⟨h1,h2⟩,x,h=>by
  rcases List.mem_cons.1 h with rfl | h
  ·exact h1
  exact All.mem h2 x h
theorem All.of {α:Type} {p:α->Prop}:∀ {l:List α},(∀ x∈l,p x)->All p l
 | [],_=>trivial
 | x :: _,h=>⟨h x (List.mem_cons_self ..),All.of fun y hy=>h y (List.mem_cons_of_mem _ hy)⟩
def Qu8:List (Nat × Nat)->List (Nat × Nat)->Bool
 | [],[]=>true
 | a :: as,b :: bs=>Nat.beq a.1 b.1 && Nat.beq a.2 b.2 && Qu8 as bs
 | _,_=>false
theorem Wbj:∀ {a b:List (Nat × Nat)},Qu8 a b=true->a=b
 | [],[],_=>rfl
 | (a,a') :: as,(b,b') :: bs,h=>by
  simp only [Qu8,Bool.and_eq_true] at h
  rw [Wbj h.2]
  have h1:=Nat.eq_of_beq_eq_true h.1.1
  have h2:=Nat.eq_of_beq_eq_true h.1.2
  rw [show a=b from h1,show a'=b' from h2]
 | [],_ :: _,h=>by simp [Qu8] at h
 | _ :: _,[],h=>by simp [Qu8] at h
def Wh3 (P:Program) (e:TypeId × List (Nat × Nat)):Bool:=
 match P.underlying e.1 with
 | some (.struct fs)=>
  match fs.toList.mapM (fun f=>(P.info? f.type).map fun i=>(f.offset,i.size)) with
  | some pl=>Qu8 pl e.2
  | none=>false
 | _=>false
def We1:Nat->Option TypeDesc->Bool
 | 0,some (.int _)=>true
 | 1,some .bool=>true
 | 2,some .string=>true
 | _,_=>false
def Qns (P:Program):Nat->List Field->List Nat->Bool
 | _,[],[]=>true
 | i,f :: fs,t :: ts=>!(f.name == "_") && Nat.beq f.offset i && We1 t (P.underlying f.type) && Qns P (i+1) fs ts
 | _,_,_=>false
def Wls (P:Program) (e:TypeId × List Nat):Bool:=
 match P.underlying e.1 with
 | some (.struct fs)=>!P.stoodInHeld e.1 && !P.eqGuardType P.depth e.1 && Qns P 0 fs.toList e.2
 | _=>false
structure Qw (P:Program) (T:Tab):Prop where
 info:T.info.all (Wh2 P)=true
 Qkp:T.Qkp.all (Wlr P)=true
 Qn2:T.Qn2.all (Wlt P)=true
 slices':T.Qbn.all (fun e=>Qke P e.1 (Qzd e.2))=true
 strs':T.strs.all (fun e=>Qke P e Whg)=true
 ints':T.ints.all (fun e=>Qke P e.1 (Whe e.2))=true
 arrs':T.Qs1.all (fun e=>Qke P e.1 (Whd e.2.1 e.2.2))=true
 has':T.has.all (fun e=>Qke P e fun _=>true)=true
 ptrs':T.Qkg.all (fun e=>Qke P e.1 (Whf e.2))=true
 bools':T.Qly.all (fun e=>Qke P e Wbl)=true
 strts':T.Qux.all (Wh3 P)=true
 eqs':T.eqs.all (Wls P)=true
theorem Qce {α β:Type} [BEq α] [LawfulBEq α] {k:α} {v:β}:∀ {l:List (α × β)},l.lookup k=some v->(k,v)∈l
 | [],h=>by simp at h
 | (a,b) :: l,h=>by
  rw [List.lookup_cons] at h
  split at h
  ·rename_i e
   have e:=eq_of_beq e
   injection h with h
   subst e
   subst h
   exact List.mem_cons_self ..
  exact List.mem_cons_of_mem _ (Qce h)
section
variable {P:Program} {T:Tab} (hT:Qw P T)
include hT
theorem Qw.Qbn:All (fun e:TypeId × TypeId=>P.underlying e.1=some (.slice e.2)) T.Qbn:=by
 refine All.of fun e he=>?_
 obtain ⟨d,h1,h2⟩:=Qiq (List.all_eq_true.1 hT.slices' e he)
 cases d<;>simp [Qzd] at h2
 rw [h1,h2]
theorem Qw.strs:All (fun e=>P.underlying e=some .string) T.strs:=by
 refine All.of fun e he=>?_
 obtain ⟨d,h1,h2⟩:=Qiq (List.all_eq_true.1 hT.strs' e he)
 cases d<;>simp [Whg] at h2
 exact h1
theorem Qw.Qly:All (fun e=>P.underlying e=some .bool) T.Qly:=by
 refine All.of fun e he=>?_
 obtain ⟨d,h1,h2⟩:=Qiq (List.all_eq_true.1 hT.bools' e he)
 cases d<;>simp [Wbl] at h2
 exact h1
theorem Qw.ints:All (fun e:TypeId × IntKind=>P.underlying e.1=some (.int e.2)) T.ints:=by
 refine All.of fun e he=>?_
 obtain ⟨d,h1,h2⟩:=Qiq (List.all_eq_true.1 hT.ints' e he)
 cases d<;>simp [Whe] at h2
 rw [h1,h2]
theorem Qw.Qs1:All (fun e:TypeId × (Nat × TypeId)=>P.underlying e.1=some (.array e.2.1 e.2.2)) T.Qs1:=by
 refine All.of fun e he=>?_
 obtain ⟨d,h1,h2⟩:=Qiq (List.all_eq_true.1 hT.arrs' e he)
 cases d<;>simp [Whd] at h2
 rw [h1,h2.1,h2.2]
theorem Qw.Qkg:All (fun e:TypeId × TypeId=>P.underlying e.1=some (.pointer e.2)) T.Qkg:=by
 refine All.of fun e he=>?_
 obtain ⟨d,h1,h2⟩:=Qiq (List.all_eq_true.1 hT.ptrs' e he)
 cases d<;>simp [Whf] at h2
 rw [h1,h2]
theorem Qw.infoAt {t:TypeId} {s b:Nat} {z:List Value} (h:T.info.lookup t=some (s,b,z)):∃ i,P.info? t=some i/\i.size=s/\i.bytes=b/\i.zero.map (·.cells)=some z.toArray:=by
 have:=List.all_eq_true.1 hT.info _ (Qce h)
 unfold Wh2 at this
 split at this
 ·rename_i i hi
  simp only [Bool.and_eq_true] at this
  obtain ⟨⟨h1,h2⟩,h3⟩:=this
  refine ⟨i,hi,Nat.eq_of_beq_eq_true h1,Nat.eq_of_beq_eq_true h2, ?_⟩
  split at h3
  ·rename_i zv hz
   rw [hz,Option.map_some]
   congr 1
   exact Array.ext' (Wb0 h3)
  cases h3
 cases this
theorem Qw.size {t:TypeId} {s b:Nat} {z:List Value} (h:T.info.lookup t=some (s,b,z)) (w:World):(sizeOf t).run P w=.ok s w:=by
 obtain ⟨i,hi,e,_⟩:=hT.infoAt h
 simp [sizeOf,typeInfo,hi,e]
theorem Qw.zero {t:TypeId} {s b:Nat} {z:List Value} (h:T.info.lookup t=some (s,b,z)) (w:World):∃ zv,(zeroValue t).run P w=.ok zv w/\zv.cells=z.toArray:=by
 obtain ⟨i,hi,_,_,e⟩:=hT.infoAt h
 obtain ⟨zv,h1,h2⟩:=Option.map_eq_some_iff.1 e
 exact ⟨zv,by simp [zeroValue,typeInfo,hi,h1],h2⟩
theorem Qw.agg {t:TypeId} {g:Bool} (h:T.Qkp.lookup t=some g) (w:World):(isAgg t).run P w=.ok g w:=by
 have:=List.all_eq_true.1 hT.Qkp _ (Qce h)
 unfold Wlr at this
 split at this
 ·rename_i d hd
  have this:Whc d=g:=by simpa using this
  subst this
  simp only [isAgg,Sem.run_bind,run_underlying hd,Result.andThen_ok]
  cases d<;>rfl
 cases this
theorem Qw.fld {t f off ty:Nat} (h:T.Qn2.lookup (t,f)=some (off,ty)):∃ fs F,P.underlying t=some (.struct fs)/\fs[f]? = some F/\F.offset=off/\F.type=ty:=by
 have:=List.all_eq_true.1 hT.Qn2 _ (Qce h)
 unfold Wlt at this
 split at this
 ·rename_i d hd
  cases d<;>simp only [Wln,reduceCtorEq] at this
  all_goals first | (cases this;done) | skip
  rename_i fs
  split at this
  ·rename_i r hr
   obtain ⟨F,hF,e⟩:=Option.map_eq_some_iff.1 hr
   subst e
   simp only [Bool.and_eq_true] at this
   exact ⟨fs,F,hd,hF,Nat.eq_of_beq_eq_true this.1,Nat.eq_of_beq_eq_true this.2⟩
  cases this
 cases this
theorem Qw.Wqj {t:TypeId} {pl:List (Nat × Nat)} (h:T.Qux.lookup t=some pl):∃ fs,P.underlying t=some (.struct fs)/\fs.toList.mapM (fun f=>(P.info? f.type).map fun i=>(f.offset,i.size))=some pl:=by
 have:=List.all_eq_true.1 hT.strts' _ (Qce h)
 unfold Wh3 at this
 split at this
 ·rename_i fs hu
  split at this
  ·rename_i pl' hp
   exact ⟨fs,hu,by rw [hp,Wbj this]⟩
  cases this
 cases this
theorem Qw.eq {t:TypeId} {tags:List Nat} (h:T.eqs.lookup t=some tags):∃ fs,P.underlying t=some (.struct fs)/\P.stoodInHeld t=false/\P.eqGuardType P.depth t=false/\Qns P 0 fs.toList tags=true:=by
 have:=List.all_eq_true.1 hT.eqs' _ (Qce h)
 unfold Wls at this
 split at this
 ·rename_i fs hu
  simp only [Bool.and_eq_true,Bool.not_eq_true'] at this
  exact ⟨fs,hu,this.1.1,this.1.2,this.2⟩
 cases this
theorem Qw.slice {t e:TypeId} (h:T.Qbn.lookup t=some e):P.underlying t=some (.slice e):=hT.Qbn.mem _ (Qce h)
theorem Qw.int {t:TypeId} {k:IntKind} (h:T.ints.lookup t=some k):P.underlying t=some (.int k):=hT.ints.mem _ (Qce h)
theorem Qw.str {t:TypeId} (h:T.strs.contains t=true):P.underlying t=some .string:=hT.strs.mem _ (by simpa using h)
theorem Qw.Wog {t:TypeId} (h:T.has.contains t=true):∃ d,P.underlying t=some d:=by
 obtain ⟨d,h1,_⟩:=Qiq (List.all_eq_true.1 hT.has' t (by simpa using h))
 exact ⟨d,h1⟩
end
def valOf (tm:List (Nat × AV)):Operand->Option AV
 | .tmp t=>tm.lookup t
 | .const (.agg cs)=>if cs.all (·.oneCell') then some (.d (.agg (cs.toList.map .v))) else none
 | .const v=>if v.oneCell' then some (.d (.v v)) else none
 | .func f=>some (.d (.fn f []))
 | .global _=>none
theorem VRs.consts {w:World} {ok:Bool->Nat->Prop}:∀ (cs:List Value),(∀ v∈cs,v.oneCell'=true)->VRs w ok (cs.map .v) cs
 | [],_=>.nil
 | v :: cs,h=>.cons (h v (List.mem_cons_self ..)) (.v (h v (List.mem_cons_self ..))) (VRs.consts cs fun u hu=>h u (List.mem_cons_of_mem _ hu))
section
variable {X:Ctx} {C:Qq} {a:Act} {tm:List (Nat × AV)} (htm:∀ i av,tm.lookup i=some av->∃ v,a.tmps[i]? = some v/\Zj C.w (C.ok X) C.μ av v)
include htm
theorem Wiq {x:Operand} {av:AV} (h:valOf tm x=some av):Zj C.w (C.ok X) C.μ av (a.eval x):=by
 cases x with
 | tmp t=>
  obtain ⟨v,h1,h2⟩:=htm t av h
  have e:a.eval (.tmp t)=v:=by simp [Act.eval,Array.getD_eq_getD_getElem?,h1]
  rw [e]
  exact h2
 | const v=>
  cases v with
  | agg cs=>
   simp only [valOf] at h
   split at h
   ·rename_i hc
    injection h with h
    subst h
    have hc:∀ v∈cs.toList,v.oneCell'=true:=by
     intro v hv
     exact Array.all_eq_true_iff_forall_mem.1 hc v (by simpa using hv)
    have:=VRs.consts (w:=C.w) (ok:=C.ok X) cs.toList hc
    have k:=VR.agg this
    simp only [Array.toArray_toList] at k
    exact .d k
   cases h
  | _=>
   simp only [valOf] at h
   split at h
   ·rename_i hc
    injection h with h
    subst h
    exact .d (.v hc)
   cases h
 | global g=>cases h
 | func f=>
  injection h with h
  subst h
  exact .d (.fn (xs:=[]) (cs:=[]) .nil)
end
def Wjf (op:BinOp) (a b:Int):Option Value:=
 match op with
 | .eql=>some (.bool (a == b))
 | .neq=>some (.bool (a != b))
 | .lss=>some (.bool (a < b))
 | .leq=>some (.bool (a<=b))
 | .gtr=>some (.bool (a > b))
 | .geq=>some (.bool (a>=b))
 | _=>none
def Qne (op:BinOp) (k:IntKind) (x y:Int):Option Value:=
 match op with
 | .and=>some (.int k (k.wrap (BitVec.ofInt k.bits x &&& BitVec.ofInt k.bits y).toNat))
 | .or=>some (.int k (k.wrap (BitVec.ofInt k.bits x ||| BitVec.ofInt k.bits y).toNat))
 | .xor=>some (.int k (k.wrap (BitVec.ofInt k.bits x ^^^ BitVec.ofInt k.bits y).toNat))
 | .andNot=>some (.int k (k.wrap (BitVec.ofInt k.bits x &&& ~~~ (BitVec.ofInt k.bits y)).toNat))
 | _=>none
def Qjs (op:BinOp):Value->Value->Option Value
 | .int k a,.int k' b=>
  match op with
  | .shl=>if 0<=b then some (.int k (k.wrap (a * 2 ^ (min b.toNat k.bits)))) else none
  | .shr=>if 0<=b then some (.int k (a.fdiv (2 ^ (min b.toNat k.bits)))) else none
  | .add=>if k=k' then some (.int k (k.wrap (a+b))) else none
  | .sub=>if k=k' then some (.int k (k.wrap (a - b))) else none
  | .mul=>if k=k' then some (.int k (k.wrap (a * b))) else none
  | .quo=>if k=k' then (if b=0 then none else some (.int k (k.wrap (a.tdiv b)))) else none
  | .rem=>if k=k' then (if b=0 then none else some (.int k (a.tmod b))) else none
  | .and=>if k=k' then Qne .and k a b else none
  | .or=>if k=k' then Qne .or k a b else none
  | .xor=>if k=k' then Qne .xor k a b else none
  | .andNot=>if k=k' then Qne .andNot k a b else none
  | op=>if k=k' then Wjf op a b else none
 | .bool a,.bool b=>
  match op with
  | .eql=>some (.bool (a == b))
  | .neq=>some (.bool (!(a == b)))
  | _=>none
 | .string a,.string b=>
  match op with
  | .eql=>some (.bool (a.toList == b.toList))
  | .neq=>some (.bool (!(a.toList == b.toList)))
  | _=>none
 | _,_=>none
theorem Qyb {op:BinOp} {x y z:Value} (h:Qjs op x y=some z):z.oneCell'=true:=by
 unfold Qjs at h
 cases x<;>cases y<;>cases op<;>simp only [Qne,Wjf,reduceCtorEq] at h<;>(repeat' split at h)<;>(first | (injection h with h;subst h;rfl) | cases h)
theorem run_equalIn_bool {P:Program} (d:Nat) {t:TypeId} (w:World) (a b:Bool) (hu:P.underlying t=some .bool):(Op.equalIn (d+1) t (.bool a) (.bool b)).run P w=.ok (a == b) w:=by
 simp [Op.equalIn,run_underlying hu]
theorem run_equal_bool {P:Program} {t:TypeId} (w:World) (a b:Bool) (hu:P.underlying t=some .bool):(Op.equal t (.bool a) (.bool b)).run P w=.ok (a == b) w:=run_equalIn_bool 9999 w a b hu
theorem Qyc {P:Program} {w:World} {op:BinOp} {t:TypeId} {x y:Operand} {u v z:Value} (h:Qjs op u v=some z) (hb:∀ a b,u=.bool a->v=.bool b->P.underlying t=some .bool):
  (do eqGuard op t x y u v;binOp op t u v).run P w=.ok z w:=by
 cases u with
 | int k a=>
  cases v<;>simp only [Qjs,reduceCtorEq] at h
  rename_i k' b
  simp only [eqGuard_at_int,Sem.run_bind,Sem.run_pure,Result.andThen_ok]
  cases op<;>simp only [Wjf,Qne] at h<;>(repeat' split at h)<;>first
   | (cases h;done)
   | (injection h with h;subst h;subst_vars;simp_all [binOp,Op.intArith,Op.intCmp,Op.intDiv,Op.intBits,Op.shift];done)
   | (injection h with h;subst h;subst_vars;simp_all [binOp,Op.intArith,Op.intCmp,Op.intDiv,Op.intBits,Op.shift];omega)
 | bool a=>
  cases v<;>simp only [Qjs,reduceCtorEq] at h
  rename_i b
  have hu:=hb a b rfl rfl
  simp only [eqGuard_at_bool,Sem.run_bind,Sem.run_pure,Result.andThen_ok]
  cases op<;>simp only [reduceCtorEq] at h<;>(injection h with h;subst h)<;>simp [binOp,run_equal_bool _ _ _ hu]
 | string a=>
  cases v<;>simp only [Qjs,reduceCtorEq] at h
  rename_i b
  simp only [eqGuard_at_string,Sem.run_bind,Sem.run_pure,Result.andThen_ok]
  cases op<;>simp only [reduceCtorEq] at h<;>(injection h with h;subst h)<;>simp [binOp,Op.stringOp]
 | _=>cases v<;>simp [Qjs] at h
end Go.Sy
namespace Go.Sy
def cellsOf:AV->List AV
 | .agg xs=>xs
 | .d (.agg xs)=>xs.map .d
 | av=>[av]
def Qi0:AV->Bool
 | .Ql _=>true
 | _=>false
def Qij:List AV->Option (List DV)
 | []=>some []
 | .d x :: xs=>(Qij xs).map (x :: ·)
 | _ :: _=>none
def Qrt (xs:List AV):AV:=
 match Qij xs with
 | some ds=>.d (.agg ds)
 | none=>.agg xs
def unV (op:UnOp):Value->Option Value
 | .int k n=>
  match op with
  | .neg=>some (.int k (k.wrap (0 - n)))
  | .xor=>Qne .xor k (if k.signed then -1 else k.max) n
  | _=>none
 | .bool b=>match op with | .not=>some (.bool !b) | _=>none
 | _=>none
def isRef:AV->Bool
 | .ptr ..=>true
 | .d (.rop ..)=>true
 | .d (.fn ..)=>true
 | .fn ..=>true
 | .d (.v (.pointer (some _)))=>true
 | _=>false
def Qru (T:Tab) (t:TypeId):AV->AV->Option Bool
 | .ptr ..,.d (.v (.pointer none))=>if (T.Qkg.lookup t).isSome then some false else none
 | .d (.rop ..),.d (.v (.pointer none))=>if (T.Qkg.lookup t).isSome then some false else none
 | .d (.v (.pointer none)),.d (.v (.pointer none))=>if (T.Qkg.lookup t).isSome then some true else none
 | .d (.v (.pointer (some _))),.d (.v (.pointer none))=>if (T.Qkg.lookup t).isSome then some false else none
 | _,_=>none
def Qmq:Nat->DV->DV->Option Bool
 | 0,.v (.int k a),.v (.int k' b)=>if k=k' then some (a == b) else none
 | 1,.v (.bool a),.v (.bool b)=>some (a == b)
 | 2,.v (.string a),.v (.string b)=>some (a.toList == b.toList)
 | _,_,_=>none
def Qmf:List Nat->List DV->List DV->Option Bool
 | [t],[x],[y]=>Qmq t x y
 | t :: ts,x :: xs,y :: ys=>
  match Qmq t x y,Qmf ts xs ys with
  | some a,some b=>some (a && b)
  | _,_=>none
 | _,_,_=>none
def Qxp (T:Tab) (t:TypeId) (a b:AV):Option Bool:=
 match a,b with
 | .d (.agg xs),.d (.agg ys)=>
  match T.eqs.lookup t with
  | some tags=>Qmf tags xs ys
  | none=>none
 | a,b=>Qru T t a b
def mapVal (val:Operand->Option AV):List Operand->Option (List AV)
 | []=>some []
 | x :: xs=>match val x with
  | some a=>(mapVal val xs).map (a :: ·)
  | none=>none
def Qtb:AV->Bool
 | .d (.agg _)=>false
 | .agg _=>false
 | .Ql _=>false
 | _=>true
def Qn8 (T:Tab) (t:TypeId):Value->Bool
 | .bool _=>T.Qly.contains t
 | _=>true
def Qu9 (T:Tab) (val:Operand->Option AV):List Operand->List TypeId->Option AV
 | [x],[t]=>
  match val x with
  | some (.own _ _ _ n)=>bif (T.Qbn.lookup t).isSome then some (.d (.v (.int .i64 n))) else none
  | some (.win _ _ n)=>bif (T.Qbn.lookup t).isSome then some (.d (.v (.int .i64 n))) else none
  | some (.d (.sl _ n _))=>bif (T.Qbn.lookup t).isSome then some (.d (.v (.int .i64 n))) else none
  | some (.d (.v (.slice none 0 0)))=>bif (T.Qbn.lookup t).isSome then some (.d (.v (.int .i64 0))) else none
  | some (.d (.v (.string s)))=>bif T.strs.contains t then some (.d (.v (.int .i64 s.size))) else none
  | _=>none
 | _,_=>none
def Qqk (mx:Bool) (val:Operand->Option AV):List Operand->Option AV
 | [x,y]=>
  match val x,val y with
  | some (.d (.v (.int k a))),some (.d (.v (.int _ b)))=>some (.d (.v (.int k (bif mx then (if a < b then b else a) else (if b < a then b else a)))))
  | _,_=>none
 | _=>none
def Qs6 (T:Tab) (val:Operand->Option AV) (c:Call):Option AV:=
 match c.callee with
 | .builtin .len=>Qu9 T val c.args.toList c.argTypes.toList
 | .builtin .max=>Qqk true val c.args.toList
 | .builtin .min=>Qqk false val c.args.toList
 | _=>none
def Qnj (pl:List (Nat × Nat)) (val:Operand->Option AV):List AV->List (Nat × Operand)->Option (List AV)
 | cs,[]=>some cs
 | cs,(i,x) :: rest=>
  match pl[i]?,val x with
  | some (off,n),some a=>bif Nat.beq (cellsOf a).length n && Nat.ble (off+n) cs.length && !Qi0 a then Qnj pl val (cs.take off ++ cellsOf a ++ cs.drop (off+n)) rest else none
  | _,_=>none
def Qcw (T:Tab) (val:Operand->Option AV):Op->Option AV
 | .move x=>val x
 | .assign x=>val x
 | .pick c a b=>
  match val c with
  | some (.d (.v (.bool t)))=>bif t then val a else val b
  | _=>none
 | .nilCheck x=>
  match val x with
  | some a=>bif isRef a then some a else none
  | none=>none
 | .binOp op t x y _=>
  match val x,val y with
  | some (.d (.v u)),some (.d (.v v))=>
   match Qjs op u v with
   | some z=>bif Qn8 T t u then some (.d (.v z)) else none
   | none=>
    match op with
    | .eql=>(Qru T t (.d (.v u)) (.d (.v v))).map fun b=>.d (.v (.bool b))
    | .neq=>(Qru T t (.d (.v u)) (.d (.v v))).map fun b=>.d (.v (.bool (!b)))
    | _=>none
  | some a,some b=>
   match op with
   | .eql=>(Qxp T t a b).map fun b=>.d (.v (.bool b))
   | .neq=>(Qxp T t a b).map fun b=>.d (.v (.bool (!b)))
   | _=>none
  | _,_=>none
 | .unOp op _ x=>
  match val x with
  | some (.d (.v u))=>(unV op u).map fun z=>.d (.v z)
  | _=>none
 | .convert s d x=>
  match T.ints.lookup d,val x with
  | some k,some (.d (.v (.int _ n)))=>bif T.has.contains s then some (.d (.v (.int k (k.wrap n)))) else none
  | none,some (.d (.v (.string b)))=>bif T.strs.contains d && T.has.contains s then some (.d (.v (.string b))) else none
  | _,_=>none
 | .makeFunc (.func f) first caps=>bif first.isEmpty then (match mapVal val caps.toList with | some xs=>bif xs.all Qtb then some (match Qij xs with | some ds=>.d (.fn f ds) | none=>.fn f xs) else none | none=>none) else (match first.toList,caps.toList with | [x],[]=>(val x).map (.bm f ·) | _,_=>none)
 | .fieldAddr s x f=>
  match T.Qn2.lookup (s,f) with
  | some (off,ty)=>
   match T.info.lookup ty with
   | some (n+1,_,_)=>
    match val x with
    | some (.ptr id k i o)=>some (.ptr id k i (o+off))
    | some (.d (.rop t m g i o))=>some (.d (.rop t m g i (o+off)))
    | some (.d (.v (.pointer (some ⟨b,o,none⟩))))=>some (.d (.v (.pointer (some ⟨b,o+off,none⟩))))
    | _=>none
   | _=>none
  | none=>none
 | .field s x f=>
  match T.Qn2.lookup (s,f) with
  | some (off,ty)=>
   match T.Qkp.lookup ty,T.info.lookup ty,val x with
   | some true,some (n,_,_),some (.d (.agg xs))=>some (.d (.agg ((xs.drop off).take n)))
   | some true,some (n,_,_),some (.agg xs)=>some (Qrt ((xs.drop off).take n))
   | some false,some _,some (.d (.agg xs))=>xs[off]?.map .d
   | some false,some _,some (.agg xs)=>xs[off]?
   | _,_,_=>none
  | none=>none
 | .extract x i=>
  match val x with
  | some (.Ql xs)=>xs[i]?
  | _=>none
 | .makeInterface t x=>
  match T.Qkg.lookup t,val x with
  | some _,some (.d x)=>some (.d (.ifc t x))
  | some _,some a=>some (.ifc t a)
  | _,_=>none
 | .call c=>Qs6 T val c
 | .build t parts=>
  match T.Qux.lookup t,T.info.lookup t with
  | some pl,some (_,_,z)=>bif z.all (·.oneCell') then (Qnj pl val (z.map fun v=>.d (.v v)) parts.toList).map Qrt else none
  | _,_=>none
 | _=>none
section
variable {w:World} {ok:Bool->Nat->Prop} {μ:List (Option Nat)}
theorem Qmk:∀ {xs:List AV} {ds:List DV},Qij xs=some ds->xs=ds.map .d
 | [],ds,h=>by simp [Qij] at h;simp [<- h]
 | .d x :: xs,ds,h=>by
  simp only [Qij,Option.map_eq_some_iff] at h
  obtain ⟨l,hl,rfl⟩:=h
  simp [Qmk hl]
 | .agg _ :: _,_,h=>by simp [Qij] at h
 | .Ql _ :: _,_,h=>by simp [Qij] at h
 | .own .. :: _,_,h=>by simp [Qij] at h
 | .ptr .. :: _,_,h=>by simp [Qij] at h
 | .win .. :: _,_,h=>by simp [Qij] at h
 | .mp .. :: _,_,h=>by simp [Qij] at h
 | .fn .. :: _,_,h=>by simp [Qij] at h
 | .ifc .. :: _,_,h=>by simp [Qij] at h
 | .bm .. :: _,_,h=>by simp [Qij] at h
theorem Jm.toD:∀ {ds:List DV} {vs:List Value},Jm w ok μ (ds.map .d) vs->VRs w ok ds vs
 | [],_,.nil=>.nil
 | _ :: _,_,.cons h1 (.d h) hs=>.cons h1 h (Jm.toD hs)
theorem VRs.toA:∀ {ds:List DV} {vs:List Value},VRs w ok ds vs->Jm w ok μ (ds.map .d) vs
 | [],_,.nil=>.nil
 | _ :: _,_,.cons h1 h hs=>.cons h1 (.d h) (VRs.toA hs)
theorem Qnq {xs:List AV} {vs:List Value} (h:Jm w ok μ xs vs):Zj w ok μ (Qrt xs) (.agg vs.toArray):=by
 unfold Qrt
 split
 ·rename_i ds e
  rw [Qmk e] at h
  exact .d (.agg h.toD)
 exact .agg h
theorem Jm.drop:∀ (n:Nat) {xs:List AV} {vs:List Value},Jm w ok μ xs vs->Jm w ok μ (xs.drop n) (vs.drop n)
 | 0,_,_,h=>h
 | _+1,_,_,.nil=>.nil
 | n+1,_,_,.cons _ _ hs=>Jm.drop n hs
theorem Jm.take:∀ (n:Nat) {xs:List AV} {vs:List Value},Jm w ok μ xs vs->Jm w ok μ (xs.take n) (vs.take n)
 | 0,_,_,_=>by simpa using Jm.nil
 | _+1,_,_,.nil=>.nil
 | n+1,_,_,.cons h1 h hs=>.cons h1 h (Jm.take n hs)
theorem Jm.at_:∀ {i:Nat} {xs:List AV} {vs:List Value} {x:AV},Jm w ok μ xs vs->xs[i]? = some x->∃ v,vs[i]? = some v/\Zj w ok μ x v/\v.oneCell'=true
 | _,_,_,_,.nil,h=>by simp at h
 | 0,_,_,_,.cons h1 h hs,e=>by simp at e;subst e;exact ⟨_,rfl,h,h1⟩
 | i+1,_,_,_,.cons _ _ hs,e=>by simpa using Jm.at_ hs (by simpa using e)
theorem Jm.append:∀ {xs ys:List AV} {vs us:List Value},Jm w ok μ xs vs->Jm w ok μ ys us->Jm w ok μ (xs ++ ys) (vs ++ us)
 | _,_,_,_,.nil,k=>k
 | _,_,_,_,.cons h1 h hs,k=>.cons h1 h (Jm.append hs k)
theorem VRs.drop:∀ (n:Nat) {xs:List DV} {vs:List Value},VRs w ok xs vs->VRs w ok (xs.drop n) (vs.drop n)
 | 0,_,_,h=>h
 | _+1,_,_,.nil=>.nil
 | n+1,_,_,.cons _ _ hs=>VRs.drop n hs
theorem VRs.take:∀ (n:Nat) {xs:List DV} {vs:List Value},VRs w ok xs vs->VRs w ok (xs.take n) (vs.take n)
 | 0,_,_,_=>by simpa using VRs.nil
 | _+1,_,_,.nil=>.nil
 | n+1,_,_,.cons h1 h hs=>.cons h1 h (VRs.take n hs)
theorem VRs.at_:∀ {i:Nat} {xs:List DV} {vs:List Value} {x:DV},VRs w ok xs vs->xs[i]? = some x->∃ v,vs[i]? = some v/\VR w ok x v/\v.oneCell'=true
 | _,_,_,_,.nil,h=>by simp at h
 | 0,_,_,_,.cons h1 h hs,e=>by simp at e;subst e;exact ⟨_,rfl,h,h1⟩
 | i+1,_,_,_,.cons _ _ hs,e=>by simpa using VRs.at_ hs (by simpa using e)
theorem Qaw.at_:∀ {i:Nat} {xs:List AV} {vs:List Value} {x:AV},Qaw w ok μ xs vs->xs[i]? = some x->∃ v,vs[i]? = some v/\Zj w ok μ x v
 | _,_,_,_,.nil,h=>by simp at h
 | 0,_,_,_,.cons h hs,e=>by simp at e;subst e;exact ⟨_,rfl,h⟩
 | i+1,_,_,_,.cons _ hs,e=>by simpa using Qaw.at_ hs (by simpa using e)
theorem Zj.Qbt {x v:Value} (h:Zj w ok μ (.d (.v x)) v):v=x:=by
 cases h with
 | d h=>cases h with | v _=>rfl
theorem Zj.Wmu {id k off n:Nat} {v:Value} (h:Zj w ok μ (.own id k off n) v):∃ A c,v=.slice A n c:=by
 cases h with
 | Qbj _=>exact ⟨_,_,rfl⟩
 | own _ _ _ _ _=>exact ⟨_,_,rfl⟩
theorem Zj.Wne {id off n:Nat} {v:Value} (h:Zj w ok μ (.win id off n) v):∃ A c,v=.slice A n c:=by
 cases h with
 | win _ _ _=>exact ⟨_,_,rfl⟩
theorem Zj.Wpc {t:Bool} {n:Nat} {g:Nat->List DV} {v:Value} (h:Zj w ok μ (.d (.sl t n g)) v):∃ A c,v=.slice A n c:=by
 cases h with
 | d h=>
  cases h with
  | sl0=>exact ⟨_,_,rfl⟩
  | sl=>exact ⟨_,_,rfl⟩
theorem Zj.Qos {xs:List DV} {v:Value} (h:Zj w ok μ (.d (.agg xs)) v):∃ cs,v=.agg cs.toArray/\VRs w ok xs cs:=by
 cases h with
 | d h=>cases h with | agg h=>exact ⟨_,rfl,h⟩
theorem Zj.Wa7 {xs:List AV} {v:Value} (h:Zj w ok μ (.agg xs) v):∃ cs,v=.agg cs.toArray/\Jm w ok μ xs cs:=by
 cases h with
 | agg h=>exact ⟨_,rfl,h⟩
theorem Zj.Wm9 {xs:List AV} {v:Value} (h:Zj w ok μ (.Ql xs) v):∃ cs,v=.tuple cs.toArray/\Qaw w ok μ xs cs:=by
 cases h with
 | Ql h=>exact ⟨_,rfl,h⟩
theorem Zj.Qh8 {id k i off:Nat} {v:Value} (h:Zj w ok μ (.ptr id k i off) v):∃ b,μ[id]? = some (some b)/\v=.pointer (some ⟨b,i * k+off,none⟩):=by
 cases h with
 | ptr h=>exact ⟨_,h,rfl⟩
theorem Zj.Wmy {x:AV} {v:Value} (h:Zj w ok μ x v) (hr:isRef x=true):(∃ a,v=.pointer (some a))\/(∃ f c,v=.func (.func f) #[] c):=by
 cases h with
 | d h=>
  cases h with
  | rop=>exact .inl ⟨_,rfl⟩
  | fn=>exact .inr ⟨_,_,rfl⟩
  | v _=>
   unfold isRef at hr
   split at hr<;>first | (rename_i e;cases e;exact .inl ⟨_,rfl⟩) | (exfalso;simp_all) | (rename_i e;cases e)
  | _=>simp [isRef] at hr
 | ptr=>exact .inl ⟨_,rfl⟩
 | fn=>exact .inr ⟨_,_,rfl⟩
 | _=>simp [isRef] at hr
theorem Qje {av:AV} {v:Value} (h:Zj w ok μ av v) (ht:∀ xs,av≠.Ql xs):Jm w ok μ (cellsOf av) v.cells.toList:=by
 cases h with
 | d h=>
  cases h with
  | agg h=>simpa [cellsOf,Value.cells] using h.toA
  | v h=>cases v<;>first | (simp [Value.oneCell'] at h;done) | exact .cons rfl (.d (.v rfl)) .nil
  | sl0=>exact .cons rfl (.d .sl0) .nil
  | sl k vs h0 hc Jj hl hr hm=>exact .cons rfl (.d (.sl k vs h0 hc Jj hl hr hm)) .nil
  | rop k vs hi Jj hl hr hm=>exact .cons rfl (.d (.rop k vs hi Jj hl hr hm)) .nil
  | fn h=>exact .cons rfl (.d (.fn h)) .nil
  | ifc h=>exact .cons rfl (.d (.ifc h)) .nil
 | agg h=>simpa [cellsOf,Value.cells] using h
 | Ql h=>exact absurd rfl (ht _)
 | Qbj h=>exact .cons rfl (.Qbj h) .nil
 | own h h1 h2 h3 h4=>exact .cons rfl (.own h h1 h2 h3 h4) .nil
 | ptr h=>exact .cons rfl (.ptr h) .nil
 | win h h1 h2=>exact .cons rfl (.win h h1 h2) .nil
 | mp h=>exact .cons rfl (.mp h) .nil
 | fn h=>exact .cons rfl (.fn h) .nil
 | ifc h=>exact .cons rfl (.ifc h) .nil
 | bm h=>exact .cons rfl (.bm h) .nil
theorem Qmy {av:AV} (h:Qi0 av=false):∀ xs,av≠.Ql xs:=by
 rintro xs rfl
 cases h
theorem foldl_set:∀ (us:List Value) (q:Nat) (c:Array Value),q+us.length<=c.size->us.toArray.zipIdx.foldl (fun cs (c,j)=>cs.setIfInBounds (q+j) c) c=(c.toList.take q ++ us ++ c.toList.drop (q+us.length)).toArray:=by
 intro us q c hc
 rw [<- Array.foldl_toList]
 have gen:∀ (us:List Value) (m:Nat) (c:Array Value),q+m+us.length<=c.size ->
   (us.zipIdx m).foldl (fun cs (p:Value × Nat)=>cs.setIfInBounds (q+p.2) p.1) c=(c.toList.take (q+m) ++ us ++ c.toList.drop (q+m+us.length)).toArray:=by
  intro us
  induction us with
  | nil=>intro m c _;simp
  | cons u us ih=>
   intro m c hc
   simp only [List.length_cons] at hc
   rw [List.zipIdx_cons,List.foldl_cons,ih (m+1) _ (by simp;omega)]
   congr 1
   apply List.ext_getElem?
   intro r
   simp only [List.getElem?_append,List.length_append,List.length_take,Array.length_toList,List.length_cons,List.getElem?_take,List.getElem?_drop,Array.size_setIfInBounds,Array.getElem?_toList,List.getElem?_cons]
   have h1:min (q+(m+1)) c.size=q+m+1:=by omega
   have h2:min (q+m) c.size=q+m:=by omega
   simp only [h1,h2]
   by_cases e1:r < q+m
   ·simp [e1,show r < q+m+1 from by omega,show r < q+(m+1) from by omega,show r < q+m+1+us.length from by omega,show r < q+m+(us.length+1) from by omega,Array.getElem?_setIfInBounds,show ¬ q+m=r from by omega]
   by_cases e2:r=q+m
   ·subst e2
    simp [show q+m < q+m+1+us.length from by omega,show q+m < q+(m+1) from by omega,Array.getElem?_setIfInBounds,show q+m < c.size from by omega]
   by_cases e3:r < q+m+1+us.length
   ·simp [e1,e3,show ¬ r < q+m+1 from by omega,show r < q+m+(us.length+1) from by omega,show ¬ r - (q+m)=0 from by omega,show r - (q+m+1)=r - (q+m) - 1 from by omega]
   simp [e3,show ¬ r < q+m+(us.length+1) from by omega,Array.getElem?_setIfInBounds,show ¬ q+m=q+(m+1)+us.length+(r - (q+m+1+us.length)) from by omega]
   congr 1
   omega
 have:=gen us 0 c (by simpa using hc)
 simpa using this
theorem Qwi {pl:List (Nat × Nat)} {val:Operand->Option AV} {ρ:Operand->Value} (hρ:∀ x av,val x=some av->Zj w ok μ av (ρ x)):∀ {parts:List (Nat × Operand)} {cs cs':List AV} {vs:List Value},
  Qnj pl val cs parts=some cs'->Jm w ok μ cs vs->∃ vs',Instr.fill (pl.toArray[·]?) vs.toArray (parts.map fun p=>(p.1,ρ p.2))=some vs'.toArray/\Jm w ok μ cs' vs'
 | [],cs,cs',vs,h,hr=>by
  simp only [Qnj,Option.some.injEq] at h
  subst h
  exact ⟨vs,rfl,hr⟩
 | (i,x) :: parts,cs,cs',vs,h,hr=>by
  simp only [Qnj] at h
  split at h
  ·rename_i off n a hp ha
   cases hb:(Nat.beq (cellsOf a).length n && Nat.ble (off+n) cs.length && !Qi0 a) with
   | false=>rw [hb] at h;cases h
   | true=>
    rw [hb] at h
    simp only [Bool.and_eq_true,Bool.not_eq_true'] at hb
    have b1:=Nat.eq_of_beq_eq_true hb.1.1
    have b2:=Nat.le_of_ble_eq_true hb.1.2
    have hc:=Qje (hρ x a ha) (Qmy hb.2)
    have hvn:(ρ x).cells.size=n:=by
     have:=hc.length
     simp only [Array.length_toList] at this
     omega
    have hcl:=hr.length
    obtain ⟨vs',h1,h2⟩:=Qwi hρ h (((hr.take off).append hc).append (hr.drop (off+n)))
    refine ⟨vs', ?_,h2⟩
    rw [List.map_cons,Instr.fill]
    have hp':pl.toArray[i]? = some (off,n):=by simpa using hp
    rw [hp']
    simp only
    rw [if_neg (by simp [hvn];omega)]
    have hs:=foldl_set (ρ x).cells.toList off vs.toArray (by simp [hvn];omega)
    simp only [Array.toArray_toList] at hs
    rw [hs]
    have:(vs.toArray.toList.take off ++ (ρ x).cells.toList ++ vs.toArray.toList.drop (off+(ρ x).cells.toList.length))=vs.take off ++ (ρ x).cells.toList ++ vs.drop (off+n):=by simp [hvn]
    rw [this]
    exact h1
  cases h
theorem Jm.consts {w:World} {ok:Bool->Nat->Prop} {μ:List (Option Nat)}:∀ (cs:List Value),(∀ v∈cs,v.oneCell'=true)->Jm w ok μ (cs.map fun v=>.d (.v v)) cs
 | [],_=>.nil
 | c :: cs,h=>.cons (h c (List.mem_cons_self ..)) (.d (.v (h c (List.mem_cons_self ..)))) (Jm.consts cs fun v hv=>h v (List.mem_cons_of_mem _ hv))
theorem Wna {P:Program} {op:UnOp} {x z:Value} (h:unV op x=some z):(Op.unary op x).run P w=.ok z w/\z.oneCell'=true:=by
 unfold unV at h
 cases x<;>cases op<;>simp only [reduceCtorEq] at h
 ·rename_i k
  injection h with h
  subst h
  exact ⟨by simp [Op.unary],rfl⟩
 ·injection h with h
  subst h
  exact ⟨by simp [Op.unary,Op.intArith],rfl⟩
 simp only [Qne] at h
 injection h with h
 subst h
 exact ⟨by simp [Op.unary,Op.intBits],rfl⟩
variable {P:Program} {T:Tab} (hT:Qw P T) {val:Operand->Option AV} {ρ:Operand->Value} (hρ:∀ x av,val x=some av->Zj w ok μ av (ρ x))
theorem Qgu (h1:∀ x av,val x=some av->Zj w ok μ av (ρ x)):∀ {l:List Operand} {xs:List AV},mapVal val l=some xs->Qaw w ok μ xs (l.map ρ)
 | [],xs,h=>by simp [mapVal] at h;subst h;exact .nil
 | x :: l,xs,h=>by
  simp only [mapVal] at h
  split at h
  ·rename_i a ha
   obtain ⟨ys,hy,rfl⟩:=Option.map_eq_some_iff.1 h
   exact .cons (h1 _ _ ha) (Qgu h1 hy)
  cases h
theorem Wk0 {x:AV} {v:Value} (h:Zj w ok μ x v) (h1:Qtb x=true):v.oneCell'=true:=by
 cases h with
 | d h=>
  cases h with
  | v h=>exact h
  | agg h=>simp [Qtb] at h1
  | _=>rfl
 | agg h=>simp [Qtb] at h1
 | Ql h=>simp [Qtb] at h1
 | _=>rfl
theorem Qaw.ones:∀ {xs:List AV} {vs:List Value},Qaw w ok μ xs vs->xs.all Qtb=true->Jm w ok μ xs vs
 | _,_,.nil,_=>.nil
 | _,_,.cons h hs,h1=>by
  simp only [List.all_cons,Bool.and_eq_true] at h1
  exact .cons (Wk0 h h1.1) h (Qaw.ones hs h1.2)
theorem Quv (d:Nat) {t e:TypeId} (hu:P.underlying t=some (.pointer e)) (A:Option Addr):(Op.equalIn (d+1) t (.pointer A) (.pointer none)).run P w=.ok A.isNone w:=by
 cases A<;>simp [Op.equalIn,run_underlying hu]
theorem Qxa {t e:TypeId} (hu:P.underlying t=some (.pointer e)) (A:Option Addr):(Op.equal t (.pointer A) (.pointer none)).run P w=.ok A.isNone w:=Quv 9999 hu A
theorem Qw4 (t:TypeId) (A B:Option Addr):binOp .eql t (.pointer A) (.pointer B)=(do pure (.bool (<- Op.equal t (.pointer A) (.pointer B)))):=by cases A<;>cases B<;>rfl
theorem Qw5 (t:TypeId) (A B:Option Addr):binOp .neq t (.pointer A) (.pointer B)=(do pure (.bool (!(<- Op.equal t (.pointer A) (.pointer B))))):=by cases A<;>cases B<;>rfl
theorem Whz (hT:Qw P T) {t:TypeId} {a b:AV} {u v:Value} {r:Bool} (ra:Zj w ok μ a u) (rb:Zj w ok μ b v) (h:Qru T t a b=some r):
  ∃ A,u=.pointer A/\v=.pointer none/\A.isNone=r/\∃ e,P.underlying t=some (.pointer e):=by
 have hp:∀ {c:Bool},(if (T.Qkg.lookup t).isSome then some c else none)=some r->c=r/\∃ e,P.underlying t=some (.pointer e):=by
  intro c h
  split at h
  ·rename_i hs
   obtain ⟨e,he⟩:=Option.isSome_iff_exists.1 hs
   injection h with h
   exact ⟨h,e,hT.Qkg.mem _ (Qce he)⟩
  cases h
 unfold Qru at h
 split at h
 ·obtain ⟨rfl,e⟩:=hp h
  cases ra
  cases rb with
  | d rb=>cases rb;exact ⟨_,rfl,rfl,rfl,e⟩
 ·obtain ⟨rfl,e⟩:=hp h
  cases ra with
  | d ra=>
   cases ra
   cases rb with
   | d rb=>cases rb;exact ⟨_,rfl,rfl,rfl,e⟩
 ·obtain ⟨rfl,e⟩:=hp h
  cases ra with
  | d ra=>
   cases ra
   cases rb with
   | d rb=>cases rb;exact ⟨_,rfl,rfl,rfl,e⟩
 ·obtain ⟨rfl,e⟩:=hp h
  cases ra with
  | d ra=>
   cases ra
   cases rb with
   | d rb=>cases rb;exact ⟨_,rfl,rfl,rfl,e⟩
 cases h
theorem Qq3 (hT:Qw P T) {op:BinOp} {t:TypeId} {x y:Operand} {a b:AV} {u v:Value} {r:Bool} (ra:Zj w ok μ a u) (rb:Zj w ok μ b v) (h:Qru T t a b=some r):
  (op=.eql->(do eqGuard op t x y u v;binOp op t u v).run P w=.ok (.bool r) w)/\(op=.neq->(do eqGuard op t x y u v;binOp op t u v).run P w=.ok (.bool (!r)) w):=by
 obtain ⟨A,rfl,rfl,rfl,e,hu⟩:=Whz hT ra rb h
 constructor<;>(rintro rfl;simp only [eqGuard_at_pointer,Qw4,Qw5,Sem.run_bind,Sem.run_pure,Result.andThen_ok,Qxa hu])
theorem Wdr (d:Nat) {ft:TypeId} {tag:Nat} {x y:DV} {u v:Value} {r:Bool} (ht:We1 tag (P.underlying ft)=true) (h:Qmq tag x y=some r) (rx:VR w ok x u) (ry:VR w ok y v):
  (Op.equalIn (d+1) ft u v).run P w=.ok r w/\(isAgg ft).run P w=.ok false w:=by
 unfold We1 at ht
 split at ht
 ·rename_i k hu
  refine ⟨?_,by simp [isAgg,run_underlying hu]⟩
  unfold Qmq at h
  split at h
  ·split at h
   ·rename_i e
    injection h with h
    subst h
    subst e
    cases rx
    cases ry
    exact run_equalIn_int w d ft _ _ _ _ hu
   cases h
  ·rename_i e;cases e
  ·rename_i e;cases e
  cases h
 ·rename_i hu
  refine ⟨?_,by simp [isAgg,run_underlying hu]⟩
  unfold Qmq at h
  split at h
  ·rename_i e;cases e
  ·injection h with h
   subst h
   cases rx
   cases ry
   exact run_equalIn_bool' w d ft _ _ hu
  ·rename_i e;cases e
  cases h
 ·rename_i hu
  refine ⟨?_,by simp [isAgg,run_underlying hu]⟩
  unfold Qmq at h
  split at h
  ·rename_i e;cases e
  ·rename_i e;cases e
  ·injection h with h
   subst h
   cases rx
   cases ry
   exact run_equalIn_string w d ft _ _ hu
  cases h
 cases ht
theorem Wbi (d:Nat) {A B:Array Value}:∀ {fs:List Field} {tags:List Nat} {i:Nat} {xs ys:List DV} {r:Bool},Qns P i fs tags=true->Qmf tags xs ys=some r->VRs w ok xs (A.toList.drop i)->VRs w ok ys (B.toList.drop i) ->
  (Op.eqFields (d+1) A B fs).run P w=.ok r w
 | [],[],_,_,_,_,_,h,_,_=>by simp [Qmf] at h
 | [],_ :: _,_,_,_,_,h,_,_,_=>by simp [Qns] at h
 | _ :: _,[],_,_,_,_,h,_,_,_=>by simp [Qns] at h
 | f :: fs,t :: ts,i,xs,ys,r,h,he,rx,ry=>by
  simp only [Qns,Bool.and_eq_true,Bool.not_eq_true'] at h
  obtain ⟨⟨⟨h1,h2⟩,h3⟩,h4⟩:=h
  have h2:=Nat.eq_of_beq_eq_true h2
  have hn:f.name ≠ "_" := by simpa using h1
  obtain ⟨x,xs',y,ys',a,rfl,rfl,ha,hrest⟩:∃ x xs' y ys' a,xs=x :: xs'/\ys=y :: ys'/\Qmq t x y=some a/\((ts=[]/\xs'=[]/\ys'=[]/\r=a)\/∃ b,Qmf ts xs' ys'=some b/\r=(a && b)):=by
   unfold Qmf at he
   split at he
   ·rename_i e
    injection e with e1 e2
    subst e1
    subst e2
    exact ⟨_,_,_,_,_,rfl,rfl,he,.inl ⟨rfl,rfl,rfl,rfl⟩⟩
   ·rename_i e
    injection e with e1 e2
    subst e1
    subst e2
    split at he
    ·rename_i a b ha hb
     injection he with he
     exact ⟨_,_,_,_,_,rfl,rfl,ha,.inr ⟨b,hb,he.symm⟩⟩
    cases he
   cases he
  obtain ⟨u,hu1,hu2,_⟩:=rx.at_ (i:=0) rfl
  obtain ⟨v,hv1,hv2,_⟩:=ry.at_ (i:=0) rfl
  obtain ⟨q1,q2⟩:=Wdr (P:=P) d h3 ha hu2 hv2
  have p1:(part f.type A f.offset).run P w=.ok u w:=by
   have:A[i]? = some u:=by simpa using hu1
   simp [part,q2,h2,this]
  have p2:(part f.type B f.offset).run P w=.ok v w:=by
   have:B[i]? = some v:=by simpa using hv1
   simp [part,q2,h2,this]
  have e1:A.toList.drop (i+1)=(A.toList.drop i).drop 1:=by simp
  have e2:B.toList.drop (i+1)=(B.toList.drop i).drop 1:=by simp
  have rx':=rx.drop 1
  have ry':=ry.drop 1
  rw [<- e1] at rx'
  rw [<- e2] at ry'
  simp only [Op.eqFields,if_pos hn,Sem.run_bind,p1,p2,q1,Result.andThen_ok]
  rcases hrest with ⟨rfl,rfl,rfl,rfl⟩ | ⟨b,hb,rfl⟩
  ·cases fs with
   | nil=>cases r<;>simp [Op.eqFields]
   | cons g fs=>simp [Qns] at h4
  have:=Wbi d h4 hb rx' ry'
  cases a
  ·simp
  simpa using this
theorem Qws (hT:Qw P T) {op:BinOp} {t:TypeId} {x y:Operand} {a b:AV} {u v:Value} {r:Bool} (ra:Zj w ok μ a u) (rb:Zj w ok μ b v) (h:Qxp T t a b=some r):
  (op=.eql->(do eqGuard op t x y u v;binOp op t u v).run P w=.ok (.bool r) w)/\(op=.neq->(do eqGuard op t x y u v;binOp op t u v).run P w=.ok (.bool (!r)) w):=by
 unfold Qxp at h
 split at h
 ·rename_i xs ys
  split at h
  ·rename_i tags htags
   obtain ⟨fs,hu,hst,hg,hf⟩:=hT.eq htags
   obtain ⟨cs,rfl,rx⟩:=ra.Qos
   obtain ⟨ds,rfl,ry⟩:=rb.Qos
   have key:(Op.equalIn 10000 t (.agg cs.toArray) (.agg ds.toArray)).run P w=.ok r w:=by
    have hfo:P.fieldsOf t=fs:=by simp [Program.fieldsOf,hu]
    rw [run_equalIn_struct (P:=P) w 9999 t _ _ (by rw [hfo];exact hu) hst,hfo]
    exact Wbi 9998 hf h (by simpa using rx) (by simpa using ry)
   have hgd:∀ op:BinOp,(op=.eql\/op=.neq)->(eqGuard op t x y (.agg cs.toArray) (.agg ds.toArray)).run P w=.ok () w:=by
    rintro op (rfl | rfl)<;>simp [eqGuard,run_program,hg]
   constructor
   ·rintro rfl
    rw [Sem.run_bind,hgd _ (.inl rfl),Result.andThen_ok,run_eql_struct,key]
    rfl
   rintro rfl
   rw [Sem.run_bind,hgd _ (.inr rfl),Result.andThen_ok,run_neq_struct,key]
   rfl
  cases h
 exact Qq3 hT ra rb h
include hT hρ in
theorem Wer {op:BinOp} {t yt:TypeId} {x y:Operand} {av:AV} (h:Qcw T val (.binOp op t x y yt)=some av):
  ∃ v,(do eqGuard op t x y (ρ x) (ρ y);binOp op t (ρ x) (ρ y)).run P w=.ok v w/\Zj w ok μ av v:=by
 simp only [Qcw] at h
 split at h
 ·rename_i u v hu hv
  have ru:=hρ x _ hu
  have rv:=hρ y _ hv
  split at h
  ·rename_i z hz
   cases hc:Qn8 T t u with
   | false=>rw [hc] at h;cases h
   | true=>
    rw [hc] at h
    injection h with h
    subst h
    have eu:ρ x=u:=ru.Qbt
    have ev:ρ y=v:=rv.Qbt
    rw [eu,ev]
    refine ⟨z,Qyc hz ?_,.d (.v (Qyb hz))⟩
    rintro a b rfl rfl
    exact hT.Qly.mem _ (by simpa [Qn8] using hc)
  cases op<;>simp only [Option.map_eq_some_iff,reduceCtorEq] at h<;>obtain ⟨r,hr,rfl⟩:=h
  ·exact ⟨_,(Qq3 hT ru rv hr).1 rfl,.d (.v rfl)⟩
  exact ⟨_,(Qq3 hT ru rv hr).2 rfl,.d (.v rfl)⟩
 ·rename_i a b _ hu hv
  cases op<;>simp only [Option.map_eq_some_iff,reduceCtorEq] at h<;>obtain ⟨r,hr,rfl⟩:=h
  ·exact ⟨_,(Qws hT (hρ x _ hu) (hρ y _ hv) hr).1 rfl,.d (.v rfl)⟩
  exact ⟨_,(Qws hT (hρ x _ hu) (hρ y _ hv) hr).2 rfl,.d (.v rfl)⟩
 cases h
theorem Quu (b:Bool):(asBool (.bool b)).run P w=.ok b w:=rfl
include hT in
theorem Qk4 {s f off ty n b:Nat} {z:List Value} (hf:T.Qn2.lookup (s,f)=some (off,ty)) (hi:T.info.lookup ty=some (n+1,b,z)) (blk o:Nat):
  (Instr.fieldAt s (.pointer (some ⟨blk,o,none⟩)) f).run P w=.ok (.pointer (some ⟨blk,o+off,none⟩)) w:=by
 obtain ⟨fs,F,hu,hF,rfl,rfl⟩:=hT.fld hf
 have hs:=hT.size hi
 simp [Instr.fieldAt,run_underlying hu,hF,Instr.sureAddr,fieldPlace,hs,Addr.add_lit]
include hT in
theorem Qph {ty n b off:Nat} {z:List Value} {g:Bool} (ha:T.Qkp.lookup ty=some g) (hi:T.info.lookup ty=some (n,b,z)) (vs:List Value) (v:Value)
  (h:v=(if g then .agg ((vs.drop off).take n).toArray else v)) (h2:g=false->vs[off]? = some v):(part ty vs.toArray off).run P w=.ok v w:=by
 have hs:=hT.size hi
 have hg:=hT.agg ha
 cases g with
 | true=>
  simp only [if_true] at h
  rw [h]
  simp only [part,Sem.run_bind,hg,Result.andThen_ok,if_true,hs,Sem.run_pure]
  congr 2
  apply Array.ext'
  simp [List.take_drop,Nat.add_comm]
 | false=>
  have:=h2 rfl
  simp [part,hg,this]
include hT in
theorem Qz3 {t e:TypeId} (ht:T.Qbn.lookup t=some e) (A:Option Addr) (n c:Nat) (ty:TypeId):(Builtin.len_ #[t] ty #[.slice A n c]).run P w=.ok (.int .i64 n) w:=by
 simp [Builtin.len_,run_underlying (hT.slice ht),goInt]
include hT in
theorem Weu {t:TypeId} (ht:T.strs.contains t=true) (s:ByteArray) (ty:TypeId):(Builtin.len_ #[t] ty #[.string s]).run P w=.ok (.int .i64 s.size) w:=by
 simp [Builtin.len_,run_underlying (hT.str ht),goInt]
include hT hρ in
theorem pure_run {o:Oper} {av:AV} (h:Qcw T val o.op=some av):∃ v,(execOp ρ o).run P w=.ok (.value v) w/\Zj w ok μ av v:=by
 unfold execOp
 cases ho:o.op<;>rw [ho] at h<;>simp only [Qcw,reduceCtorEq] at h<;>try (dsimp only)
 case move x=>exact ⟨_,rfl,hρ _ _ h⟩
 case assign x=>exact ⟨_,rfl,hρ _ _ h⟩
 case pick c a b=>
  split at h
  ·rename_i t hc
   have rc:=hρ _ _ hc
   have ec:ρ c=.bool t:=rc.Qbt
   rw [ec]
   cases t with
   | true=>exact ⟨_,by simp [Quu],hρ _ _ h⟩
   | false=>exact ⟨_,by simp [Quu],hρ _ _ h⟩
  cases h
 case nilCheck x=>
  split at h
  ·rename_i a ha
   have ra:=hρ _ _ ha
   cases hr:isRef a with
   | false=>rw [hr] at h;cases h
   | true=>
    rw [hr] at h
    injection h with h
    subst h
    refine ⟨ρ x, ?_,ra⟩
    rcases ra.Wmy hr with ⟨q,e⟩ | ⟨f,c,e⟩<;>rw [e]<;>rfl
  cases h
 case binOp op t x y yt=>
  obtain ⟨v,h1,h2⟩:=Wer (yt:=yt) hT hρ (by simp only [Qcw];exact h)
  exact ⟨v,by rw [Sem.run_bind,h1];rfl,h2⟩
 case unOp op t x=>
  split at h
  ·rename_i u hu
   obtain ⟨z,hz,rfl⟩:=Option.map_eq_some_iff.1 h
   have e:ρ x=u:=(hρ _ _ hu).Qbt
   have k:=Wna (w:=w) (P:=P) hz
   exact ⟨z,by rw [e,Sem.run_bind,k.1];rfl,.d (.v k.2)⟩
  cases h
 case convert s d x=>
  split at h
  ·rename_i k kk n hk hx
   cases hs:T.has.contains s with
   | false=>rw [hs] at h;cases h
   | true=>
    rw [hs] at h
    injection h with h
    subst h
    obtain ⟨ds,hds⟩:=hT.Wog hs
    have e:ρ x=.int kk n:=(hρ _ _ hx).Qbt
    refine ⟨.int k (k.wrap n), ?_,.d (.v rfl)⟩
    rw [e,Sem.run_bind]
    have:(convert s d (.int kk n)).run P w=.ok (.int k (k.wrap n)) w:=by
     simp only [convert,Sem.run_bind,run_underlying hds,run_underlying (hT.int hk),Result.andThen_ok]
     cases ds<;>rfl
    rw [this];rfl
  ·rename_i b hk hx
   cases hs:(T.strs.contains d && T.has.contains s) with
   | false=>rw [hs] at h;cases h
   | true=>
    rw [hs] at h
    injection h with h
    subst h
    simp only [Bool.and_eq_true] at hs
    obtain ⟨ds,hds⟩:=hT.Wog hs.2
    have e:ρ x=.string b:=(hρ _ _ hx).Qbt
    refine ⟨.string b, ?_,.d (.v rfl)⟩
    rw [e,Sem.run_bind]
    have:(convert s d (.string b)).run P w=.ok (.string b) w:=by
     simp only [convert,Sem.run_bind,run_underlying hds,run_underlying (hT.str hs.1),Result.andThen_ok]
     cases ds<;>rfl
    rw [this];rfl
  cases h
 case build t parts=>
  split at h
  ·rename_i pl s b z hp hi
   cases hz:z.all (·.oneCell') with
   | false=>rw [hz] at h;cases h
   | true=>
    rw [hz] at h
    obtain ⟨cs',hf,rfl⟩:=Option.map_eq_some_iff.1 h
    obtain ⟨fs,hu,hm⟩:=hT.Wqj hp
    obtain ⟨i0,hi0,_,_,hz0⟩:=hT.infoAt hi
    obtain ⟨zv,hzv,hzc⟩:=Option.map_eq_some_iff.1 hz0
    obtain ⟨vs',h1,h2⟩:=Qwi hρ hf (Jm.consts z fun v hv=>List.all_eq_true.1 hz v hv)
    refine ⟨.agg vs'.toArray, ?_,Qnq h2⟩
    have hb:P.built t (parts.map fun (i,x)=>(i,ρ x)).toList=some vs'.toArray:=by
     simp only [Program.built,hi0,hu,hzv,hm,hzc]
     simpa using h1
    rw [Sem.run_bind,run_build w t _ _ hb]
    rfl
  cases h
 case makeFunc fn first caps=>
  cases fn<;>simp only [reduceCtorEq] at h
  rename_i f
  cases hf:first.isEmpty with
  | false=>
   rw [hf] at h
   simp only [cond_false] at h
   split at h
   ·rename_i x h1 h2
    obtain ⟨av0,h3,h4⟩:=Option.map_eq_some_iff.1 h
    subst h4
    have e1:first=#[x]:=by rw [<- Array.toArray_toList (xs:=first),h1]
    have e2:caps=#[]:=by rw [<- Array.toArray_toList (xs:=caps),h2]
    subst e1 e2
    exact ⟨.func (.func f) #[ρ x] #[],by simp [Instr.makeFunc],.bm (hρ _ _ h3)⟩
   cases h
  | true=>
   rw [hf] at h
   simp only [cond_true] at h
   split at h
   ·rename_i xs hx
    cases h1:xs.all Qtb with
    | false=>rw [h1] at h;cases h
    | true=>
     rw [h1] at h
     injection h with h
     subst h
     have r:=(Qgu hρ hx).ones h1
     have e:first=#[]:=by simpa using hf
     subst e
     refine ⟨.func (.func f) #[] (caps.toList.map ρ).toArray, ?_, ?_⟩
     ·simp only [Instr.makeFunc,Sem.run_bind,Sem.run_pure,Result.andThen_ok]
      have:Array.map ρ caps=(List.map ρ caps.toList).toArray:=Array.ext' (by simp)
      rw [this]
      simp
     split
     ·rename_i ds e
      rw [Qmk e] at r
      exact .d (.fn r.toD)
     exact .fn r
   cases h
 case fieldAddr s x f=>
  split at h
  ·rename_i off ty hf
   split at h
   ·rename_i n b z hi
    split at h
    ·rename_i id k i q hx
     injection h with h
     subst h
     have r:=hρ _ _ hx
     generalize ρ x=u at r
     cases r with
     | ptr hid=>
      refine ⟨_,by rw [Sem.run_bind,Qk4 hT hf hi];rfl, ?_⟩
      rw [Nat.add_assoc]
      exact .ptr hid
    ·rename_i t m g i q hx
     injection h with h
     subst h
     have r:=hρ _ _ hx
     generalize ρ x=u at r
     cases r with
     | d r=>
      cases r with
      | rop k vs h1 h2 h3 h4 h5=>
       refine ⟨_,by rw [Sem.run_bind,Qk4 hT hf hi];rfl, ?_⟩
       rw [Nat.add_assoc]
       exact .d (.rop k vs h1 h2 h3 h4 h5)
    ·rename_i b0 q hx
     injection h with h
     subst h
     have r:=hρ _ _ hx
     generalize ρ x=u at r
     cases r with
     | d r=>
      cases r with
      | v r=>exact ⟨_,by rw [Sem.run_bind,Qk4 hT hf hi];rfl,.d (.v rfl)⟩
    cases h
   cases h
  cases h
 case field s x f=>
  split at h
  ·rename_i off ty hf
   obtain ⟨fs,F,hu,hF,eo,et⟩:=hT.fld hf
   have key:∀ (vs:List Value) (v:Value),(part ty vs.toArray off).run P w=.ok v w->ρ x=.agg vs.toArray->((do pure (Next.value (<- Instr.field s (ρ x) f)):Sem Next).run P w=.ok (.value v) w):=by
    intro vs v h1 h2
    simp [Instr.field,run_underlying hu,hF,h2,asAgg,eo,et,h1]
   split at h
   ·rename_i n b z xs ha hi hx
    injection h with h
    subst h
    obtain ⟨vs,hr,r⟩:=(hρ _ _ hx).Qos
    exact ⟨_,key _ _ (Qph hT ha hi _ _ (by simp) (by simp)) hr,.d (.agg ((r.drop off).take n))⟩
   ·rename_i n b z xs ha hi hx
    injection h with h
    subst h
    obtain ⟨vs,hr,r⟩:=(hρ _ _ hx).Wa7
    exact ⟨_,key _ _ (Qph hT ha hi _ _ (by simp) (by simp)) hr,Qnq ((r.drop off).take n)⟩
   ·rename_i p xs ha hi hx
    obtain ⟨n,b,z⟩:=p
    obtain ⟨y,hy,rfl⟩:=Option.map_eq_some_iff.1 h
    obtain ⟨vs,hr,r⟩:=(hρ _ _ hx).Qos
    obtain ⟨v,e1,e2,_⟩:=r.at_ hy
    exact ⟨v,key _ _ (Qph hT ha hi _ _ (by simp) (fun _=>e1)) hr,.d e2⟩
   ·rename_i p xs ha hi hx
    obtain ⟨n,b,z⟩:=p
    obtain ⟨vs,hr,r⟩:=(hρ _ _ hx).Wa7
    obtain ⟨v,e1,e2,_⟩:=r.at_ h
    exact ⟨v,key _ _ (Qph hT ha hi _ _ (by simp) (fun _=>e1)) hr,e2⟩
   cases h
  cases h
 case extract x i=>
  split at h
  ·rename_i xs hx
   obtain ⟨vs,hr,r⟩:=(hρ _ _ hx).Wm9
   obtain ⟨v,e1,e2⟩:=r.at_ h
   exact ⟨v,by simp [Instr.extract,hr,e1],e2⟩
  cases h
 case makeInterface t x=>
  split at h
  ·rename_i e y he hx
   injection h with h
   subst h
   have hu:=hT.Qkg.mem _ (Qce he)
   have r:=hρ _ _ hx
   cases r with
   | d r=>exact ⟨_,by simp [Instr.makeInterface,run_underlying hu],.d (.ifc r)⟩
  ·rename_i e y _ he hx
   injection h with h
   subst h
   have hu:=hT.Qkg.mem _ (Qce he)
   exact ⟨_,by simp [Instr.makeInterface,run_underlying hu],.ifc (hρ _ _ hx)⟩
  cases h
 case call c=>
  obtain ⟨callee,args,tys⟩:=c
  obtain ⟨args⟩:=args
  obtain ⟨tys⟩:=tys
  unfold Qs6 at h
  cases callee<;>simp only [reduceCtorEq] at h
  rename_i bi
  cases bi<;>simp only [reduceCtorEq] at h
  ·-- len
   unfold Qu9 at h
   split at h
   ·rename_i x t
    have key:∀ (A:Option Addr) (n c:Nat),(T.Qbn.lookup t).isSome=true->ρ x=.slice A n c->(execOp ρ o).run P w=.ok (.value (.int .i64 n)) w:=by
     intro A n c hs e1
     obtain ⟨e,he⟩:=Option.isSome_iff_exists.1 hs
     unfold execOp
     rw [ho]
     simp [resolve,invoke,builtin,e1,Qz3 hT he]
    unfold execOp at key
    rw [ho] at key
    dsimp only at key
    split at h
    ·rename_i id k q n hx
     cases hs:(T.Qbn.lookup t).isSome with
     | false=>rw [hs] at h;cases h
     | true=>
      rw [hs] at h
      injection h with h
      subst h
      have r:=hρ _ _ hx
      obtain ⟨A,c,e1⟩:=r.Wmu
      exact ⟨_,key A n c hs e1,.d (.v rfl)⟩
    ·rename_i id q n hx
     cases hs:(T.Qbn.lookup t).isSome with
     | false=>rw [hs] at h;cases h
     | true=>
      rw [hs] at h
      injection h with h
      subst h
      have r:=hρ _ _ hx
      obtain ⟨A,c,e1⟩:=r.Wne
      exact ⟨_,key A n c hs e1,.d (.v rfl)⟩
    ·rename_i tt n g hx
     cases hs:(T.Qbn.lookup t).isSome with
     | false=>rw [hs] at h;cases h
     | true=>
      rw [hs] at h
      injection h with h
      subst h
      have r:=hρ _ _ hx
      obtain ⟨A,c,e1⟩:=r.Wpc
      exact ⟨_,key A n c hs e1,.d (.v rfl)⟩
    ·rename_i hx
     cases hs:(T.Qbn.lookup t).isSome with
     | false=>rw [hs] at h;cases h
     | true=>
      rw [hs] at h
      injection h with h
      subst h
      have r:=hρ _ _ hx
      have e1:ρ x=.slice none 0 0:=r.Qbt
      exact ⟨_,key none 0 0 hs e1,.d (.v rfl)⟩
    ·rename_i s hx
     cases hs:T.strs.contains t with
     | false=>rw [hs] at h;cases h
     | true=>
      rw [hs] at h
      injection h with h
      subst h
      have r:=hρ _ _ hx
      refine ⟨.int .i64 s.size, ?_,.d (.v rfl)⟩
      have e1:ρ x=.string s:=r.Qbt
      simp [resolve,invoke,builtin,e1,Weu hT hs]
    cases h
   cases h
  all_goals
   unfold Qqk at h
   split at h
   ·rename_i x y
    split at h
    ·rename_i k a k' b hx hy
     injection h with h
     subst h
     have ex:ρ x=.int k a:=(hρ _ _ hx).Qbt
     have ey:ρ y=.int k' b:=(hρ _ _ hy).Qbt
     refine ⟨_, ?_,.d (.v rfl)⟩
     simp [resolve,invoke,builtin,ex,ey,Builtin.max_,Builtin.max2,Builtin.min_,Builtin.min2]
    cases h
   cases h
end
end Go.Sy
