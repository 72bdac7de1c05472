/- How configurations move: a new row, a row written, a row that will not be turned any more. -/
import Derived.Test.YtdhmflhncidjaaaGreatSyB
set_option linter.unusedVariables false
set_option linter.unusedSimpArgs false
namespace Go.Sy
theorem Qda {α:Type} {l:List α} {x y:α} {i:Nat} (h:l[i]? = some y):(l ++ [x])[i]? = some y:=by
 rw [List.getElem?_append_left (List.getElem?_eq_some_iff.1 h).1]
 exact h
theorem Jp {α:Type} {l:List α} {x y:α} {i:Nat}:(l ++ [x])[i]? = some y↔l[i]? = some y\/(i=l.length/\x=y):=by
 rw [List.getElem?_append]
 split
 ·rename_i h
  constructor
  ·exact .inl
  rintro (h1 | ⟨rfl,_⟩)
  ·exact h1
  omega
 rename_i h
 constructor
 ·intro h1
  have:i - l.length=0:=by
   rcases Nat.eq_zero_or_pos (i - l.length) with h2 | h2
   ·exact h2
   rw [List.getElem?_eq_none (by simp;omega)] at h1
   cases h1
  rw [this] at h1
  simp at h1
  exact .inr ⟨by omega,h1⟩
 rintro (h1 | ⟨rfl,rfl⟩)
 ·have:=(List.getElem?_eq_some_iff.1 h1).1
  omega
 simp
section
variable {X:Ctx} {C:Qq}
theorem Wt.Qip (h:Wt X C) {id:Nat} {r:Row} (hx:C.rows[id]? = some r):∃ x,C.μ[id]? = some x:=by
 have h1:=(List.getElem?_eq_some_iff.1 hx).1
 rw [<- h.len] at h1
 exact ⟨_,List.getElem?_eq_getElem h1⟩
def Qq.drew (C:Qq):Qq:={ C with w:=C.w.drew }
theorem Row.Qhv (r:Row) {w w':World} {m:Option Nat} {b:Nat} (h:∀ b,m=some b->w'.heap[b]? = w.heap[b]?) (hx:∀ b∈r.ext w m,w'.heap[b]? = w.heap[b]?):r.hasB w' m b↔r.hasB w m b:=by
 unfold Row.hasB
 rw [Row.Qc3 r h hx]
theorem Qq.Qwm (C:Qq) {b:Nat}:C.drew.live b↔C.live b:=by
 constructor
 ·rintro ⟨id,m,r,h1,h2,h3,h4⟩
  exact ⟨id,m,r,h1,h2,h3,(Row.Qhv r (w:=C.w) (w':=C.drew.w) (fun _ _=>rfl) (fun _ _=>rfl)).1 h4⟩
 rintro ⟨id,m,r,h1,h2,h3,h4⟩
 exact ⟨id,m,r,h1,h2,h3,(Row.Qhv r (w:=C.w) (w':=C.drew.w) (fun _ _=>rfl) (fun _ _=>rfl)).2 h4⟩
theorem Wt.drew (h:Wt X C):Wt X C.drew:=
 ⟨h.len,h.os,h.tape,⟨h.output.1,Nat.le_trans h.output.2 (Nat.le_succ _)⟩,h.size,h.keep,h.shape,h.first,h.place,h.apart,
  fun id m b r h1 h2 h3=>h.Qb4 id m b r h1 h2 (by rwa [Row.Qc3 r (w:=C.w) (w':=C.drew.w) (fun _ _=>rfl) (fun _ _=>rfl)] at h3),
  fun i j m n b r s h1 h2 h3 h4 h5 h6=>by
   rw [Row.Qc3 r (w:=C.w) (w':=C.drew.w) (fun _ _=>rfl) (fun _ _=>rfl)] at h5
   rw [Row.Qc3 s (w:=C.w) (w':=C.drew.w) (fun _ _=>rfl) (fun _ _=>rfl)]
   exact h.Qb7 i j m n b r s h1 h2 h3 h4 h5 h6,
  fun id ob r h1 h2=>(h.rel id ob r h1 h2).mono (fun t b k=>⟨k.1,fun e=>k.2.1 ((Qq.Qwm C).1 e),k.2.2⟩) (fun _ _ _=>rfl) (fun _ _ k=>k) (fun _ _ _ k=>⟨_,k,rfl⟩) (fun _ _=>rfl) (fun _ _=>rfl)⟩
theorem Ev.drew:Ev X C C.drew:=⟨Nat.le_refl _,fun _ _ _=>rfl,fun _ _ h=>fun e=>h ((Qq.Qwm C).1 e),fun _ _ _ h=>⟨_,h,rfl⟩,fun _ _ h=>h⟩
def Qq.push (C:Qq) (o:Obj) (r:Row):Qq:={ μ:=C.μ ++ [some C.w.heap.size],rows:=C.rows ++ [r],w:=C.w.alloc o }
theorem Wt.Qqm (h:Wt X C) (o:Obj) {id:Nat} {m:Option Nat} {r:Row} (h1:C.μ[id]? = some m) (h2:C.rows[id]? = some r):r.ext (C.w.alloc o) m=r.ext C.w m:=
 Row.Qc3 r (fun b e=>heap_alloc_old _ _ (h.place id b (e▸h1)).2) fun b hb=>heap_alloc_old _ _ (h.Qb4 id m b r h1 h2 hb).2
theorem Qq.Whk (h:Wt X C) {o:Obj} {r:Row} (hr:∀ w m,r.ext w m=[]) {b:Nat} (hb:b < C.w.heap.size):(C.push o r).live b↔C.live b:=by
 have hl:=h.len
 constructor
 ·rintro ⟨id,m,s,h1,h2,h3,h4⟩
  simp only [Qq.push] at h1 h2
  rcases Jp.1 h1 with h1 | ⟨_,h1⟩
  ·rcases Jp.1 h2 with h2 | ⟨h2,_⟩
   ·refine ⟨id,m,s,h1,h2,h3, ?_⟩
    unfold Row.hasB at h4 ⊢
    rwa [show (C.push o r).w=C.w.alloc o from rfl,h.Qqm o h1 h2] at h4
   have:=(List.getElem?_eq_some_iff.1 h1).1
   omega
  rcases Jp.1 h2 with h2 | ⟨_,h2⟩
  ·have:=(List.getElem?_eq_some_iff.1 h2).1
   omega
  subst h2
  rcases h4 with h4 | h4
  ·rw [<- h1] at h4
   injection h4 with h4
   omega
  rw [hr] at h4;cases h4
 rintro ⟨id,m,s,h1,h2,h3,h4⟩
 refine ⟨id,m,s,Qda h1,Qda h2,h3, ?_⟩
 unfold Row.hasB at h4 ⊢
 rwa [show (C.push o r).w=C.w.alloc o from rfl,h.Qqm o h1 h2]
theorem Ev.push (h:Wt X C) (o:Obj) (r:Row) (hr:∀ w m,r.ext w m=[]:=by intros;rfl):Ev X C (C.push o r):=
 ⟨by simp [Qq.push],fun b hb _=>heap_alloc_old _ _ hb,fun b hb hl=>fun k=>hl ((Qq.Whk h hr hb).1 k),
  fun b cs ty hc=>⟨cs,by rw [<- hc];exact heap_alloc_old _ _ (Array.getElem?_eq_some_iff.1 hc).1,rfl⟩,fun id x hx=>Qda hx⟩
theorem Wt.push (h:Wt X C) {o:Obj} {r:Row} (hr:Qbg (C.push o r).w ((C.push o r).ok X) (C.push o r).μ (some C.w.heap.size) r) (hne:∀ w m,r.ext w m=[]:=by intros;rfl):Wt X (C.push o r):=by
 have ev:=Ev.push h o r hne
 have hold:∀ {i b:Nat} {m:Option Nat} {s:Row},(C.push o r).μ[i]? = some m->(C.push o r).rows[i]? = some s->b∈s.ext (C.push o r).w m->C.μ[i]? = some m/\C.rows[i]? = some s/\b∈s.ext C.w m:=by
  intro i b m s h1 h2 h3
  simp only [Qq.push] at h1 h2
  have hl:=h.len
  rcases Jp.1 h1 with h1 | ⟨e1,h1⟩<;>rcases Jp.1 h2 with h2 | ⟨e2,h2⟩
  ·exact ⟨h1,h2,by rwa [show (C.push o r).w=C.w.alloc o from rfl,h.Qqm o h1 h2] at h3⟩
  ·have:=(List.getElem?_eq_some_iff.1 h1).1
   omega
  ·have:=(List.getElem?_eq_some_iff.1 h2).1
   omega
  subst h2
  rw [hne] at h3
  cases h3
 refine ⟨by simp [Qq.push,h.len],h.os,h.tape,h.output,Nat.le_trans h.size ev.size, ?_, ?_, ?_, ?_, ?_, ?_, ?_, ?_⟩
 ·intro b hb ho
  rw [<- h.keep b hb ho]
  exact heap_alloc_old _ _ (Nat.lt_of_lt_of_le hb h.size)
 ·intro b cs ty hc
  obtain ⟨cs',h1,h2⟩:=h.shape b cs ty hc
  exact ⟨cs',by rw [<- h1];exact heap_alloc_old _ _ (Array.getElem?_eq_some_iff.1 h1).1,h2⟩
 ·exact fun id x hx=>Qda (h.first id x hx)
 ·intro id b hb
  simp only [Qq.push] at hb ⊢
  rcases Jp.1 hb with hb | ⟨_,hb⟩
  ·have:=h.place id b hb
   exact ⟨this.1,by simp;omega⟩
  injection hb with hb
  subst hb
  exact ⟨.inr h.size,by simp⟩
 ·intro i j b r' s h1 h2 h3 h4 h5 h6
  simp only [Qq.push] at h1 h2 h3 h4
  rcases Jp.1 h1 with h1 | ⟨e1,h1⟩<;>rcases Jp.1 h2 with h2 | ⟨e2,h2⟩
  ·have k1:=(List.getElem?_eq_some_iff.1 h1).1
   have k2:=(List.getElem?_eq_some_iff.1 h2).1
   rw [h.len] at k1 k2
   rw [List.getElem?_append_left k1] at h3
   rw [List.getElem?_append_left k2] at h4
   exact h.apart i j b r' s h1 h2 h3 h4 h5 h6
  ·injection h2 with h2
   have:=(h.place i b h1).2
   omega
  ·injection h1 with h1
   have:=(h.place j b h2).2
   omega
  omega
 ·intro id m b s h1 h2 h3
  obtain ⟨h1,h2,h3⟩:=hold h1 h2 h3
  have:=h.Qb4 id m b s h1 h2 h3
  exact ⟨this.1,Nat.lt_of_lt_of_le this.2 ev.size⟩
 ·intro i j m n b p q h1 h2 h3 h4 h5 h6
  obtain ⟨k1,k3,k5⟩:=hold h1 h3 h5
  refine ⟨?_,fun h7=>?_⟩
  ·have hb:=(h.Qb4 i m b p k1 k3 k5).2
   simp only [Qq.push] at h2 h4
   rcases Jp.1 h2 with h2 | ⟨e2,h2⟩
   ·have k2:=(List.getElem?_eq_some_iff.1 h2).1
    rw [h.len] at k2
    rw [List.getElem?_append_left k2] at h4
    exact (h.Qb7 i j m n b p q k1 h2 k3 h4 k5 h6).1
   rw [<- h2]
   intro e
   injection e with e
   omega
  obtain ⟨k2,k4,k7⟩:=hold h2 h4 h7
  exact (h.Qb7 i j m n b p q k1 k2 k3 k4 k5 h6).2 k7
 intro id ob s h1 h2
 rcases Jp.1 h1 with h1 | ⟨e1,h1⟩<;>rcases Jp.1 h2 with h2 | ⟨e2,h2⟩
 ·refine (h.rel id ob s h1 h2).mono ev.ok ev.same ev.pre ev.shape ?_ ?_
  ·rintro b rfl
   exact heap_alloc_old _ _ (h.place id b h1).2
  intro b hb
  exact heap_alloc_old _ _ (h.Qb4 id ob b s h1 h2 hb).2
 ·have:=(List.getElem?_eq_some_iff.1 h1).1
  have:=h.len
  omega
 ·have:=(List.getElem?_eq_some_iff.1 h2).1
  have:=h.len
  omega
 subst h1
 subst h2
 exact hr
def Qq.Qcl (C:Qq) (r:Row):Qq:={ μ:=C.μ ++ [none],rows:=C.rows ++ [r],w:=C.w }
theorem Qq.Whm (hl:C.μ.length=C.rows.length) {r:Row} (hr:∀ w m,r.ext w m=[]) {b:Nat}:(C.Qcl r).live b↔C.live b:=by
 constructor
 ·rintro ⟨id,m,s,h1,h2,h3,h4⟩
  simp only [Qq.Qcl] at h1 h2
  rcases Jp.1 h1 with h1 | ⟨_,h1⟩
  ·rcases Jp.1 h2 with h2 | ⟨h2,_⟩
   ·exact ⟨id,m,s,h1,h2,h3,h4⟩
   have:=(List.getElem?_eq_some_iff.1 h1).1
   omega
  rcases Jp.1 h2 with h2 | ⟨_,h2⟩
  ·have:=(List.getElem?_eq_some_iff.1 h2).1
   omega
  subst h2
  rw [<- h1] at h4
  rcases h4 with h4 | h4
  ·cases h4
  rw [hr] at h4;cases h4
 rintro ⟨id,m,s,h1,h2,h3,h4⟩
 exact ⟨id,m,s,Qda h1,Qda h2,h3,h4⟩
theorem Ev.Qcl (h:Wt X C) (r:Row) (hr:∀ w m,r.ext w m=[]:=by intros;rfl):Ev X C (C.Qcl r):=
 ⟨Nat.le_refl _,fun _ _ _=>rfl,fun b _ hl=>fun k=>hl ((Qq.Whm h.len hr).1 k),fun _ _ _ k=>⟨_,k,rfl⟩,fun id x hx=>Qda hx⟩
theorem Wt.Qcl (h:Wt X C) {r:Row} (hr:Qbg C.w ((C.Qcl r).ok X) (C.Qcl r).μ none r) (hne:∀ w m,r.ext w m=[]:=by intros;rfl):Wt X (C.Qcl r):=by
 have ev:=Ev.Qcl h r hne
 have hold:∀ {i:Nat} {m:Option Nat} {s:Row},(C.Qcl r).μ[i]? = some m->(C.Qcl r).rows[i]? = some s->(C.μ[i]? = some m/\C.rows[i]? = some s)\/(m=none/\s=r):=by
  intro i m s h1 h2
  simp only [Qq.Qcl] at h1 h2
  have hl:=h.len
  rcases Jp.1 h1 with h1 | ⟨e1,h1⟩<;>rcases Jp.1 h2 with h2 | ⟨e2,h2⟩
  ·exact .inl ⟨h1,h2⟩
  ·have:=(List.getElem?_eq_some_iff.1 h1).1
   omega
  ·have:=(List.getElem?_eq_some_iff.1 h2).1
   omega
  exact .inr ⟨h1.symm,h2.symm⟩
 refine ⟨by simp [Qq.Qcl,h.len],h.os,h.tape,h.output,h.size,h.keep,h.shape,fun id x hx=>Qda (h.first id x hx), ?_, ?_, ?_, ?_, ?_⟩
 ·intro id b hb
  simp only [Qq.Qcl] at hb
  rcases Jp.1 hb with hb | ⟨_,hb⟩
  ·exact h.place id b hb
  cases hb
 ·intro i j b r' s h1 h2 h3 h4 h5 h6
  rcases hold h1 h3 with ⟨h1,h3⟩ | ⟨e,_⟩
  ·rcases hold h2 h4 with ⟨h2,h4⟩ | ⟨e,_⟩
   ·exact h.apart i j b r' s h1 h2 h3 h4 h5 h6
   cases e
  cases e
 ·intro id m b s h1 h2 h3
  rcases hold h1 h2 with ⟨h1,h2⟩ | ⟨_,rfl⟩
  ·exact h.Qb4 id m b s h1 h2 h3
  rw [hne] at h3;cases h3
 ·intro i j m n b p q h1 h2 h3 h4 h5 h6
  rcases hold h1 h3 with ⟨h1,h3⟩ | ⟨_,rfl⟩
  ·rcases hold h2 h4 with ⟨h2,h4⟩ | ⟨rfl,rfl⟩
   ·exact h.Qb7 i j m n b p q h1 h2 h3 h4 h5 h6
   exact ⟨fun e=>(by cases e),fun h7=>(by rw [hne] at h7;cases h7)⟩
  rw [hne] at h5;cases h5
 intro id ob s h1 h2
 rcases Jp.1 h1 with h1 | ⟨e1,h1⟩<;>rcases Jp.1 h2 with h2 | ⟨e2,h2⟩
 ·exact (h.rel id ob s h1 h2).mono ev.ok ev.same ev.pre ev.shape (fun _ _=>rfl) (fun _ _=>rfl)
 ·have:=(List.getElem?_eq_some_iff.1 h1).1
  have:=h.len
  omega
 ·have:=(List.getElem?_eq_some_iff.1 h2).1
  have:=h.len
  omega
 subst h1
 subst h2
 exact hr
structure Qgo (X:Ctx) (C:Qq) (id b:Nat) (r r':Row) (w':World):Prop where
 μ:C.μ[id]? = some (some b)
 row:C.rows[id]? = some r
 live:r.live=true
 os:w'.os=C.w.os
 tape:w'.tape=C.w.tape
 output:w'.output=C.w.output/\C.w.drawn<=w'.drawn
 size:w'.heap.size=C.w.heap.size
 other:∀ k,k≠b->w'.heap[k]? = C.w.heap[k]?
 shape:∀ cs ty,C.w.heap[b]? = some (.cells cs ty (0,0))->∃ cs',w'.heap[b]? = some (.cells cs' ty (0,0))/\cs'.size=cs.size
 noX:∀ w m,r.ext w m=[]:=by intros;rfl
 noX':∀ w m,r'.ext w m=[]:=by intros;rfl
def Qq.Yw (C:Qq) (id:Nat) (r':Row) (w':World):Qq:={ μ:=C.μ,rows:=C.rows.set id r',w:=w' }
theorem Qb2 {α:Type} {l:List α} {i j:Nat} {x y:α} (h:i < l.length):(l.set i x)[j]? = some y↔(i=j/\x=y)\/(i≠j/\l[j]? = some y):=by
 rw [List.getElem?_set]
 by_cases e:i=j
 ·subst e;simp [h]
 simp [e]
variable {id b:Nat} {r r':Row} {w':World}
theorem Wt.Qnx (h:Wt X C) (t:Qgo X C id b r r' w') {i:Nat} {m:Option Nat} {s:Row} (n:id≠i) (h1:C.μ[i]? = some m) (h2:C.rows[i]? = some s) (hs:s≠.gone):
  (∀ k,m=some k->w'.heap[k]? = C.w.heap[k]?)/\∀ c∈s.ext C.w m,w'.heap[c]? = C.w.heap[c]?:=by
 refine ⟨fun k e=>t.other k ?_,fun c hc=>t.other c ?_⟩
 ·rintro rfl
  exact n (h.apart id i k r s t.μ (e▸h1) t.row h2 t.live hs)
 rintro rfl
 exact n (h.Qjc t.μ h1 t.row h2 t.live hs (.inl rfl) (.inr hc))
theorem Qq.Whl (h:Wt X C) (t:Qgo X C id b r r' w') {k:Nat} (hk:(C.Yw id r' w').live k):C.live k:=by
 obtain ⟨i,m,s,h1,h2,h3,h4⟩:=hk
 simp only [Qq.Yw] at h1 h2 h4
 rcases (Qb2 (List.getElem?_eq_some_iff.1 t.row).1).1 h2 with ⟨rfl,rfl⟩ | ⟨n,h2⟩
 ·rcases h4 with h4 | h4
  ·exact Qq.Qrr (h4▸h1) t.row t.live
  rw [t.noX'] at h4;cases h4
 obtain ⟨q1,q2⟩:=h.Qnx t n h1 h2 (by rintro rfl;cases h3)
 exact ⟨i,m,s,h1,h2,h3,(Row.Qhv s q1 q2).1 h4⟩
theorem Ev.Yw (h:Wt X C) (t:Qgo X C id b r r' w'):Ev X C (C.Yw id r' w'):=
 ⟨Nat.le_of_eq t.size.symm,fun k _ hl=>t.other k (fun e=>hl (e▸Qq.Qrr t.μ t.row t.live)),fun k _ hl hk=>hl (Qq.Whl h t hk),
  fun k cs ty hc=>by
   by_cases e:k=b
   ·subst e;exact t.shape cs ty hc
   exact ⟨cs,(t.other k e).trans hc,rfl⟩,fun _ _ hx=>hx⟩
theorem Wt.Yw (h:Wt X C) (t:Qgo X C id b r r' w') (hng:r'≠.gone\/r'.live=false) (hr:Qbg w' ((C.Yw id r' w').ok X) C.μ (some b) r'):Wt X (C.Yw id r' w'):=by
 have ev:=Ev.Yw h t
 have hlt:=(List.getElem?_eq_some_iff.1 t.row).1
 have hold:∀ {i c:Nat} {m:Option Nat} {s:Row},(C.Yw id r' w').μ[i]? = some m->(C.Yw id r' w').rows[i]? = some s->c∈s.ext w' m->id≠i/\C.μ[i]? = some m/\C.rows[i]? = some s/\c∈s.ext C.w m:=by
  intro i c m s h1 h2 h3
  simp only [Qq.Yw] at h1 h2
  rcases (Qb2 hlt).1 h2 with ⟨rfl,rfl⟩ | ⟨n,h2⟩
  ·rw [t.noX'] at h3;cases h3
  obtain ⟨q1,q2⟩:=h.Qnx t n h1 h2 (by rintro rfl;cases h3)
  exact ⟨n,h1,h2,by rwa [Row.Qc3 s q1 q2] at h3⟩
 refine ⟨by simp [Qq.Yw,h.len],t.os.trans h.os,t.tape.trans h.tape,⟨t.output.1.trans h.output.1,Nat.le_trans h.output.2 t.output.2⟩,by rw [show (C.Yw id r' w').w=w' from rfl,t.size];exact h.size, ?_, ?_,h.first, ?_, ?_, ?_, ?_, ?_⟩
 ·intro k hk ho
  rw [<- h.keep k hk ho]
  refine t.other k ?_
  rintro rfl
  rcases (h.place id k t.μ).1 with h1 | h1
  ·exact ho h1
  omega
 ·intro k cs ty hc
  obtain ⟨cs',h1,h2⟩:=h.shape k cs ty hc
  obtain ⟨cs2,h3,h4⟩:=ev.shape k cs' ty h1
  exact ⟨cs2,h3,h4.trans h2⟩
 ·intro i k hk
  have:=h.place i k hk
  exact ⟨this.1,by rw [show (C.Yw id r' w').w=w' from rfl,t.size];exact this.2⟩
 ·intro i j k p q h1 h2 h3 h4 h5 h6
  simp only [Qq.Yw] at h1 h2 h3 h4
  rcases (Qb2 hlt).1 h3 with ⟨rfl,rfl⟩ | ⟨n1,h3⟩<;>rcases (Qb2 hlt).1 h4 with ⟨rfl,rfl⟩ | ⟨n2,h4⟩
  ·rfl
  ·exact h.apart id j k r q h1 h2 t.row h4 t.live h6
  ·rw [t.μ] at h2
   injection h2 with h2
   injection h2 with h2
   subst h2
   refine h.apart i id b p r h1 t.μ h3 t.row h5 ?_
   intro e
   have:=t.live
   rw [e] at this
   cases this
  exact h.apart i j k p q h1 h2 h3 h4 h5 h6
 ·intro i m c s h1 h2 h3
  obtain ⟨_,k1,k2,k3⟩:=hold h1 h2 h3
  have:=h.Qb4 i m c s k1 k2 k3
  exact ⟨this.1,by rw [show (C.Yw id r' w').w=w' from rfl,t.size];exact this.2⟩
 ·intro i j m n c p q h1 h2 h3 h4 h5 h6
  obtain ⟨n1,k1,k3,k5⟩:=hold h1 h3 h5
  refine ⟨?_,fun h7=>?_⟩
  ·simp only [Qq.Yw] at h2 h4
   rcases (Qb2 hlt).1 h4 with ⟨rfl,rfl⟩ | ⟨n2,h4⟩
   ·exact (h.Qb7 i id m n c p r k1 h2 k3 t.row k5 (by intro e;have:=t.live;rw [e] at this;cases this)).1
   exact (h.Qb7 i j m n c p q k1 h2 k3 h4 k5 h6).1
  obtain ⟨_,k2,k4,k7⟩:=hold h2 h4 h7
  exact (h.Qb7 i j m n c p q k1 k2 k3 k4 k5 h6).2 k7
 intro i ob s h1 h2
 simp only [Qq.Yw] at h1 h2
 rcases (Qb2 hlt).1 h2 with ⟨rfl,rfl⟩ | ⟨n,h2⟩
 ·rw [t.μ] at h1
  injection h1 with h1
  subst h1
  exact hr
 by_cases hs:s=.gone
 ·subst hs;cases ob<;>trivial
 refine (h.rel i ob s h1 h2).mono ev.ok ev.same ev.pre ev.shape ?_ ?_
 ·exact (h.Qnx t n h1 h2 hs).1
 exact (h.Qnx t n h1 h2 hs).2
end
end Go.Sy
namespace Go.Sy
def Qo4 (T:Tab) (rows:List Row) (t:TypeId) (p:AV):Option AV:=
 match T.Qkp.lookup t,T.info.lookup t with
 | some g,some (n,_,_)=>
  match p with
  | .ptr id 0 0 off=>
   match rows[id]? with
   | some (.box _ cs)=>bif Nat.ble (off+n) cs.length then (bif g then some (Qrt ((cs.drop off).take n)) else cs[off]?) else none
   | _=>none
  | .d (.rop _ _ f i off)=>bif Nat.ble (off+n) (f i).length then (bif g then some (.d (.agg (((f i).drop off).take n))) else (f i)[off]?.map .d) else none
  | _=>none
 | _,_=>none
def Qql (T:Tab) (rows:List Row) (t:TypeId) (p x:AV):Option (List Row):=
 match T.info.lookup t with
 | some (n,_,_)=>
  match p with
  | .ptr id 0 0 off=>
   match rows[id]? with
   | some (.box ty cs)=>
    bif Nat.ble (off+n) cs.length && Nat.beq (cellsOf x).length n && !Qi0 x then some (rows.set id (.box ty (cs.take off ++ cellsOf x ++ cs.drop (off+n)))) else none
   | _=>none
  | _=>none
 | none=>none
def Qhn (val:Operand->Option AV):Nat->List (Nat × Operand)->Option (List (List DV))
 | _,[]=>some []
 | j,(i,x) :: rest=>
  match val x with
  | some a=>bif Nat.beq i j && !Qi0 a then (match Qij (cellsOf a) with | some ds=>(Qhn val (j+1) rest).map (ds :: ·) | none=>none) else none
  | none=>none
def Qfg (T:Tab) (val:Operand->Option AV) (rows:List Row):Op->Option (Option AV × List Row)
 | .alloc t=>
  match T.info.lookup t with
  | some (_,_,z)=>bif z.all (·.oneCell') then some (some (.ptr rows.length 0 0 0),rows ++ [.box t (z.map fun v=>.d (.v v))]) else none
  | none=>none
 | .box t x=>
  match val x with
  | some a=>bif Qi0 a then none else some (some (.ptr rows.length 0 0 0),rows ++ [.box t (cellsOf a)])
  | none=>none
 | .buildSlice t n parts=>
  match T.Qbn.lookup t with
  | some e=>
   match T.info.lookup e,Qhn val 0 parts.toList with
   | some (k,_,z),some els=>
    bif Nat.beq els.length n && els.all (fun d=>Nat.beq d.length k) && Nat.ble (n * k) 16777216 && Nat.beq z.length k && Nat.blt 0 n && Nat.blt 0 k then
     some (some (.own rows.length k 0 n),rows ++ [.flat false k e n (fun j=>els.getD j [])])
    else none
   | _,_=>none
  | none=>none
 | .load t x=>
  match val x with
  | some p=>(Qo4 T rows t p).map fun a=>(some a,rows)
  | none=>none
 | .store t x y=>
  match val x,val y with
  | some p,some a=>(Qql T rows t p a).map fun r=>(none,r)
  | _,_=>none
 | _=>none
section
variable {X:Ctx} {C:Qq} {T:Tab} (hT:Qw X.P T) (hC:Wt X C)
theorem Wfo (hC:Wt X C) {id b:Nat} {ty:TypeId} {cs:List AV} (hμ:C.μ[id]? = some (some b)) (hr:C.rows[id]? = some (.box ty cs)):
  ∃ vs,C.w.heap[b]? = some (.cells vs.toArray ty (0,0))/\Jm C.w (C.ok X) C.μ cs vs:=hC.rel id _ _ hμ hr
theorem Qgx (b o j:Nat):(⟨b,o,none⟩:Addr).add j=⟨b,o+j,none⟩:=by unfold Addr.add;split<;>simp_all
include hT in
theorem Qf5 {w:World} {t b off n by':Nat} {z:List Value} {g:Bool} (hg:T.Qkp.lookup t=some g) (hi:T.info.lookup t=some (n,by',z)) (vs:List Value) (hl:g=true->vs.length=n)
  (hm:∀ j v,vs[j]? = some v->w.cell? ⟨b,off+j,none⟩=some v) (v:Value) (h1:g=false->vs[0]? = some v):
  (loadVar t ⟨b,off,none⟩).run X.P w=.ok (if g then .agg vs.toArray else v) w:=by
 simp only [loadVar,Sem.run_bind,hT.agg hg,Result.andThen_ok,hT.size hi]
 cases g with
 | true=>
  have:=run_loadCells_list (P:=X.P) w ⟨b,off,none⟩ vs (fun j v hj=>by rw [Qgx];exact hm j v hj)
  rw [hl rfl] at this
  simp [this,hT.size hi]
 | false=>
  have:=hm 0 v (h1 rfl)
  simp only [Nat.add_zero] at this
  simp [this]
theorem Qka {vs:List Value} {off n j:Nat} {v:Value} (h:((vs.drop off).take n)[j]? = some v):vs[off+j]? = some v:=by
 rw [List.getElem?_take] at h
 split at h
 ·simpa using h
 cases h
include hT hC in
theorem Qzo {t:TypeId} {p av:AV} {u:Value} (hp:Zj C.w (C.ok X) C.μ p u) (h:Qo4 T C.rows t p=some av):
  ∃ v,(Instr.loadAt t u).run X.P C.w=.ok v C.w/\Zj C.w (C.ok X) C.μ av v:=by
 unfold Qo4 at h
 split at h
 ·rename_i g n by' z hg hi
  split at h
  ·rename_i id off
   obtain ⟨b,hμ,rfl⟩:=hp.Qh8
   split at h
   ·rename_i ty cs hr
    obtain ⟨vs,hh,hv⟩:=Wfo hC hμ hr
    cases hb:Nat.ble (off+n) cs.length with
    | false=>rw [hb] at h;cases h
    | true=>
     rw [hb] at h
     have hle:=Nat.le_of_ble_eq_true hb
     rw [hv.length] at hle
     have hm:∀ j v,vs[off+j]? = some v->C.w.cell? ⟨b,0 * 0+off+j,none⟩=some v:=by
      intro j v hj
      rw [cell_of_row _ _ _ _ _ _ hh]
      simpa using hj
     cases g with
     | true=>
      simp only [cond_true,Option.some.injEq] at h
      subst h
      refine ⟨.agg ((vs.drop off).take n).toArray, ?_,Qnq ((hv.drop off).take n)⟩
      have:=Qf5 hT (w:=C.w) (b:=b) (off:=0 * 0+off) hg hi ((vs.drop off).take n) (fun _=>by simp;omega) (fun j v hj=>hm j v (Qka hj)) undef (by simp)
      simpa [Instr.loadAt,Instr.sureAddr] using this
     | false=>
      simp only [cond_true,cond_false] at h
      obtain ⟨v,e1,e2,_⟩:=hv.at_ h
      refine ⟨v, ?_,e2⟩
      have:=Qf5 hT (w:=C.w) (b:=b) (off:=0 * 0+off) hg hi (vs.drop off) (by simp) (fun j v hj=>hm j v (by simpa using hj)) v (by simpa using e1)
      simpa [Instr.loadAt,Instr.sureAddr] using this
   cases h
  ·rename_i tt m f i off
   cases hp with
   | d hp=>
    cases hp with
    | rop k vs h1 h2 h3 h4 h5=>
     rename_i b o
     cases hb:Nat.ble (off+n) (f i).length with
     | false=>rw [hb] at h;cases h
     | true=>
      rw [hb] at h
      have hv:=h4 i h1
      have hle:=Nat.le_of_ble_eq_true hb
      rw [hv.length] at hle
      have hm:∀ j v,(vs i)[off+j]? = some v->C.w.cell? ⟨b,o+i * k+off+j,none⟩=some v:=by
       intro j v hj
       have:=h5 i (off+j) v h1 hj
       rwa [<- Nat.add_assoc] at this
      cases g with
      | true=>
       simp only [cond_true,Option.some.injEq] at h
       subst h
       refine ⟨.agg (((vs i).drop off).take n).toArray, ?_,.d (.agg ((hv.drop off).take n))⟩
       have:=Qf5 hT (w:=C.w) (b:=b) (off:=o+i * k+off) hg hi (((vs i).drop off).take n) (fun _=>by simp;omega) (fun j v hj=>hm j v (Qka hj)) undef (by simp)
       simpa [Instr.loadAt,Instr.sureAddr] using this
      | false=>
       simp only [cond_true,cond_false,Option.map_eq_some_iff] at h
       obtain ⟨x,hx,rfl⟩:=h
       obtain ⟨v,e1,e2,_⟩:=hv.at_ hx
       refine ⟨v, ?_,.d e2⟩
       have:=Qf5 hT (w:=C.w) (b:=b) (off:=o+i * k+off) hg hi ((vs i).drop off) (by simp) (fun j v hj=>hm j v (by simpa using hj)) v (by simpa using e1)
       simpa [Instr.loadAt,Instr.sureAddr] using this
  cases h
 cases h
theorem Qgf (hC:Wt X C) {id b:Nat} {r r':Row} {ty:TypeId} {vs us:Array Value} (hμ:C.μ[id]? = some (some b)) (hr:C.rows[id]? = some r) (hl:r.live=true)
  (hh:C.w.heap[b]? = some (.cells vs ty (0,0))) (hs:us.size=vs.size) (hx:∀ w m,r.ext w m=[]:=by intros;rfl) (hx':∀ w m,r'.ext w m=[]:=by intros;rfl):Qgo X C id b r r' (C.w.setRow b us):=
 ⟨hμ,hr,hl,rfl,rfl,⟨rfl,Nat.le_refl _⟩,by simp [World.setRow],fun k hk=>setRow_other _ _ _ _ hk,fun cs ty' hc=>by
  rw [hh] at hc
  injection hc with hc
  injection hc with e1 e2
  subst e1
  subst e2
  exact ⟨us,setRow_heap _ _ _ _ _ _ hh,hs⟩,hx,hx'⟩
include hT hC in
theorem Wik {t:TypeId} {p x:AV} {u v:Value} {rows:List Row} (hp:Zj C.w (C.ok X) C.μ p u) (hx:Zj C.w (C.ok X) C.μ x v) (h:Qql T C.rows t p x=some rows):
  ∃ C',(Instr.storeAt t u v).run X.P C.w=.ok () C'.w/\C'.rows=rows/\Wt X C'/\Ev X C C':=by
 unfold Qql at h
 split at h
 ·rename_i n by' z hi
  split at h
  ·rename_i id off
   obtain ⟨b,hμ,rfl⟩:=hp.Qh8
   split at h
   ·rename_i ty cs hr
    obtain ⟨vs,hh,hv⟩:=Wfo hC hμ hr
    cases hb:(Nat.ble (off+n) cs.length && Nat.beq (cellsOf x).length n && !Qi0 x) with
    | false=>rw [hb] at h;cases h
    | true=>
     rw [hb] at h
     injection h with h
     subst h
     simp only [Bool.and_eq_true,Bool.not_eq_true'] at hb
     have hle:=Nat.le_of_ble_eq_true hb.1.1
     rw [hv.length] at hle
     have hn:=Nat.eq_of_beq_eq_true hb.1.2
     have hcx:=Qje hx (Qmy hb.2)
     have hvn:v.cells.toList.length=n:=by rw [<- hcx.length,hn]
     have hst:=run_storeCells_at X.P b (0 * 0+off) ty v.cells.toList 0 vs.toArray C.w hh (by simp at hvn hle ⊢;omega) hcx.one
     let us:Array Value:=(vs.toArray.toList.take (0 * 0+off+0) ++ v.cells.toList ++ vs.toArray.toList.drop (0 * 0+off+0+v.cells.toList.length)).toArray
     have hus:us.size=vs.toArray.size:=by
      simp only [us,List.size_toArray,List.length_append,List.length_take,List.length_drop,List.toList_toArray,hvn]
      omega
     have tu:=Qgf (r':=.box ty (cs.take off ++ cellsOf x ++ cs.drop (off+n))) hC hμ hr rfl hh hus
     have ev:=Ev.Yw hC tu
     refine ⟨C.Yw id _ (C.w.setRow b us), ?_,rfl,Wt.Yw hC tu (.inl (by simp)) ?_,ev⟩
     ·have hs:=hT.size hi (w:=C.w)
      simp only [Instr.storeAt,Instr.sureAddr,storeVar,Sem.run_bind,Sem.run_pure,Result.andThen_ok,hs]
      rw [if_neg (by simp at hvn;simp [hvn])]
      exact hst
     refine ⟨us.toList,by simpa using setRow_heap _ _ _ _ _ _ hh, ?_⟩
     have:us.toList=vs.take off ++ v.cells.toList ++ vs.drop (off+n):=by simp at hvn;simp [us,hvn]
     rw [this]
     exact (((hv.take off).append hcx).append (hv.drop (off+n))).mono ev.ok ev.same ev.pre ev.shape
   cases h
  cases h
 cases h
theorem Qud (k n:Nat):∀ (ps:List (Nat × Value)) (j:Nat) (cur:List Value),cur.length=n * k->(∀ p∈ps,p.2.cells.size=k)->ps.map (·.1)=(List.range' j ps.length)->j+ps.length<=n ->
  Instr.fill (fun i=>some (i * k,k)) cur.toArray ps=some (cur.take (j * k) ++ ps.flatMap (fun p=>p.2.cells.toList) ++ cur.drop ((j+ps.length) * k)).toArray
 | [],j,cur,_,_,_,_=>by simp [Instr.fill]
 | (i,v) :: ps,j,cur,hl,hp,hi,hj=>by
  have hi':=hi
  simp only [List.map_cons,List.length_cons,List.range'_succ,List.cons.injEq] at hi'
  obtain ⟨rfl,hi2⟩:=hi'
  have hv:v.cells.size=k:=hp (i,v) (List.mem_cons_self ..)
  simp only [List.length_cons] at hj
  have hb:i * k+k<=n * k:=by
   rw [<- Nat.succ_mul]
   exact Nat.mul_le_mul_right k (by omega)
  have Qju:∀ (us:List Value) (q:Nat) (c:Array Value),q+us.length<=c.size ->
    us.toArray.zipIdx.foldl (fun cs (c,j)=>cs.setIfInBounds (q+j) c) c=(c.toList.take q ++ us ++ c.toList.drop (q+us.length)).toArray:=by
   intro us q c hc
   rw [<- Array.foldl_toList]
   have gen:∀ (us:List Value) (m:Nat) (c:Array Value),q+m+us.length<=c.size ->
     (us.zipIdx m).foldl (fun cs (p:Value × Nat)=>cs.setIfInBounds (q+p.2) p.1) c=(c.toList.take (q+m) ++ us ++ c.toList.drop (q+m+us.length)).toArray:=by
    intro us
    induction us with
    | nil=>intro m c _;simp
    | cons u us ih=>
     intro m c hc
     simp only [List.length_cons] at hc
     rw [List.zipIdx_cons,List.foldl_cons,ih (m+1) _ (by simp;omega)]
     congr 1
     apply List.ext_getElem?
     intro r
     simp only [List.getElem?_append,List.length_append,List.length_take,Array.length_toList,List.length_cons,List.getElem?_take,List.getElem?_drop,Array.size_setIfInBounds,Array.getElem?_toList,List.getElem?_cons]
     have h1:min (q+(m+1)) c.size=q+m+1:=by omega
     have h2:min (q+m) c.size=q+m:=by omega
     simp only [h1,h2]
     by_cases e1:r < q+m
     ·simp [e1,show r < q+m+1 from by omega,show r < q+(m+1) from by omega,show r < q+m+1+us.length from by omega,show r < q+m+(us.length+1) from by omega,Array.getElem?_setIfInBounds,show ¬ q+m=r from by omega]
     by_cases e2:r=q+m
     ·subst e2
      simp [show q+m < q+m+1+us.length from by omega,show q+m < q+(m+1) from by omega,Array.getElem?_setIfInBounds,show q+m < c.size from by omega]
     by_cases e3:r < q+m+1+us.length
     ·simp [e1,e3,show ¬ r < q+m+1 from by omega,show r < q+m+(us.length+1) from by omega,show ¬ r - (q+m)=0 from by omega,show r - (q+m+1)=r - (q+m) - 1 from by omega]
     simp [e3,show ¬ r < q+m+(us.length+1) from by omega,Array.getElem?_setIfInBounds,show ¬ q+m=q+(m+1)+us.length+(r - (q+m+1+us.length)) from by omega]
     congr 1
     omega
   have:=gen us 0 c (by simpa using hc)
   simpa using this
  simp only [Instr.fill]
  rw [if_neg (by simp [hv,hl];exact hb)]
  have hs:=Qju v.cells.toList (i * k) cur.toArray (by simp [hv,hl];exact hb)
  simp only [Array.toArray_toList] at hs
  rw [hs]
  have hlen:v.cells.toList.length=k:=by simpa using hv
  simp only [List.toList_toArray,hlen]
  have hlt:(cur.take (i * k)).length=i * k:=by rw [List.length_take,hl];omega
  have hld:(cur.drop (i * k+k)).length=n * k - (i * k+k):=by rw [List.length_drop,hl]
  rw [Qud k n ps (i+1) (cur.take (i * k) ++ v.cells.toList ++ cur.drop (i * k+k)) (by rw [List.length_append,List.length_append,hlt,hld,hlen];omega) (fun p h=>hp p (List.mem_cons_of_mem _ h)) hi2 (by omega)]
  congr 2
  have a1:(i+1) * k=i * k+k:=Nat.succ_mul i k
  have a2:(cur.take (i * k) ++ v.cells.toList).length=i * k+k:=by rw [List.length_append,hlt,hlen]
  rw [a1,List.take_append_of_le_length (by omega),List.take_of_length_le (by omega),List.flatMap_cons,<- List.append_assoc]
  rw [List.drop_append,List.drop_of_length_le (by rw [a2,Nat.add_assoc,Nat.add_comm 1,<- Nat.add_assoc,Nat.succ_mul];have:=Nat.mul_le_mul_right k (Nat.le_add_right i ps.length);omega),List.nil_append,List.drop_drop,a2,List.length_cons]
  congr 2
  have a3:(i+1+ps.length) * k=(i+ps.length) * k+k:=by rw [Nat.add_right_comm,Nat.succ_mul]
  have a4:(i+(ps.length+1)) * k=(i+ps.length) * k+k:=by rw [<- Nat.add_assoc,Nat.succ_mul]
  have a5:i * k<=(i+ps.length) * k:=Nat.mul_le_mul_right k (Nat.le_add_right ..)
  rw [a3,a4]
  omega
theorem Qmr {α:Type} {k:Nat}:∀ {ls:List (List α)} {i j:Nat} {l:List α} {v:α},(∀ l∈ls,l.length=k)->ls[i]? = some l->l[j]? = some v->ls.flatten[i * k+j]? = some v
 | [],_,_,_,_,_,h,_=>by simp at h
 | x :: ls,0,j,l,v,hk,h,hv=>by
  simp at h
  subst h
  simp only [Nat.zero_mul,Nat.zero_add,List.flatten_cons]
  rw [List.getElem?_append_left (List.getElem?_eq_some_iff.1 hv).1]
  exact hv
 | x :: ls,i+1,j,l,v,hk,h,hv=>by
  have hx:=hk x (List.mem_cons_self ..)
  simp only [List.flatten_cons]
  rw [List.getElem?_append_right (by rw [hx,Nat.succ_mul];omega),hx,show (i+1) * k+j - k=i * k+j from by rw [Nat.succ_mul];omega]
  exact Qmr (fun l h=>hk l (List.mem_cons_of_mem _ h)) (by simpa using h) hv
theorem Qo6 {α:Type} {k:Nat}:∀ {ls:List (List α)},(∀ l∈ls,l.length=k)->ls.flatten.length=ls.length * k
 | [],_=>by simp
 | x :: ls,h=>by
  simp only [List.flatten_cons,List.length_append,List.length_cons,Nat.succ_mul]
  rw [Qo6 fun l k=>h l (List.mem_cons_of_mem _ k),h x (List.mem_cons_self ..)]
  omega
theorem Qpw {val:Operand->Option AV} {ρ:Operand->Value} {w:World} {ok:Bool->Nat->Prop} {μ:List (Option Nat)} (hρ:∀ x av,val x=some av->Zj w ok μ av (ρ x)):
  ∀ {ps:List (Nat × Operand)} {j:Nat} {els:List (List DV)},Qhn val j ps=some els ->
   ps.map (·.1)=List.range' j ps.length/\els.length=ps.length/\∀ (i:Nat) (ds:List DV),els[i]? = some ds->∃ p:Nat × Operand,ps[i]? = some p/\VRs w ok ds (ρ p.2).cells.toList
 | [],j,els,h=>by simp [Qhn] at h;subst h;simp
 | (i,x) :: ps,j,els,h=>by
  simp only [Qhn] at h
  split at h
  ·rename_i a ha
   cases hb:(Nat.beq i j && !Qi0 a) with
   | false=>rw [hb] at h;cases h
   | true=>
    rw [hb] at h
    simp only [Bool.and_eq_true,Bool.not_eq_true'] at hb
    have e:=Nat.eq_of_beq_eq_true hb.1
    subst e
    simp only [cond_true] at h
    split at h
    ·rename_i ds hd
     obtain ⟨els',he,rfl⟩:=Option.map_eq_some_iff.1 h
     obtain ⟨h1,h2,h3⟩:=Qpw hρ he
     refine ⟨by simp [h1,List.range'_succ],by simp [h2], ?_⟩
     intro q ds' hq
     cases q with
     | zero=>
      simp at hq
      subst hq
      have:=Qje (hρ _ _ ha) (Qmy hb.2)
      rw [Qmk hd] at this
      exact ⟨_,rfl,this.toD⟩
     | succ q=>exact h3 q ds' (by simpa using hq)
    cases h
  cases h
def Wlk (X:Ctx) (ρ:Operand->Value) (o:Oper) (w:World) (C':Qq):Option AV->Prop
 | some av=>∃ v,(execOp ρ o).run X.P w=.ok (.value v) C'.w/\Zj C'.w (C'.ok X) C'.μ av v
 | none=>(execOp ρ o).run X.P w=.ok .skip C'.w
include hT hC in
theorem Wbo {val:Operand->Option AV} {ρ:Operand->Value} (hρ:∀ x av,val x=some av->Zj C.w (C.ok X) C.μ av (ρ x)) {o:Oper} {oav:Option AV} {rows:List Row}
  (h:Qfg T val C.rows o.op=some (oav,rows)):
  ∃ C',C'.rows=rows/\Wt X C'/\Ev X C C'/\Wlk X ρ o C.w C' oav:=by
 have hl:=hC.len
 cases ho:o.op<;>rw [ho] at h<;>simp only [Qfg,reduceCtorEq] at h
 case alloc t=>
  split at h
  ·rename_i n by' z hi
   cases hz:z.all (·.oneCell') with
   | false=>rw [hz] at h;cases h
   | true=>
    rw [hz] at h
    injection h with h
    injection h with h1 h2
    subst h1
    subst h2
    obtain ⟨zv,e1,e2⟩:=hT.zero hi C.w
    have hzz:∀ v∈z,v.oneCell'=true:=by simpa using hz
    have ev:=Ev.push hC (.cells z.toArray t) (.box t (z.map fun v=>.d (.v v)))
    refine ⟨C.push (.cells z.toArray t) (.box t (z.map fun v=>.d (.v v))),rfl,Wt.push hC ?_,ev, ?_⟩
    ·refine ⟨z,heap_alloc_new _ _, ?_⟩
     have:=(VRs.consts (w:=(C.push (.cells z.toArray t) (.box t (z.map fun v=>.d (.v v)))).w) (ok:=(C.push (.cells z.toArray t) (.box t (z.map fun v=>.d (.v v)))).ok X) z hzz).toA (μ:=(C.push (.cells z.toArray t) (.box t (z.map fun v=>.d (.v v)))).μ)
     rw [List.map_map] at this
     exact this
    refine ⟨.pointer (some ⟨C.w.heap.size,0,none⟩), ?_, ?_⟩
    ·simp only [execOp,ho,Instr.alloc,e1,newVar,newRow,e2,Sem.run_bind,Sem.run_pure,Result.andThen_ok,run_newObj]
     rfl
    have:(C.push (.cells z.toArray t) (.box t (z.map fun v=>.d (.v v)))).μ[C.rows.length]? = some (some C.w.heap.size):=by simp [Qq.push,<- hl]
    simpa using Zj.ptr (i:=0) (k:=0) (off:=0) this
  cases h
 case box t x=>
  split at h
  ·rename_i a ha
   cases ht:Qi0 a with
   | true=>rw [ht] at h;cases h
   | false=>
    rw [ht] at h
    injection h with h
    injection h with h1 h2
    subst h1
    subst h2
    have hcx:=Qje (hρ _ _ ha) (Qmy ht)
    have ev:=Ev.push hC (.cells (ρ x).cells t) (.box t (cellsOf a))
    refine ⟨C.push (.cells (ρ x).cells t) (.box t (cellsOf a)),rfl,Wt.push hC ?_,ev, ?_⟩
    ·exact ⟨(ρ x).cells.toList,by rw [Array.toArray_toList];exact heap_alloc_new C.w (.cells (ρ x).cells t),ev.Wp3 hcx⟩
    refine ⟨.pointer (some ⟨C.w.heap.size,0,none⟩), ?_, ?_⟩
    ·simp only [execOp,ho,Instr.box,newVar,newRow,Sem.run_bind,Sem.run_pure,Result.andThen_ok,run_newObj]
     rfl
    have:(C.push (.cells (ρ x).cells t) (.box t (cellsOf a))).μ[C.rows.length]? = some (some C.w.heap.size):=by simp [Qq.push,<- hl]
    simpa using Zj.ptr (i:=0) (k:=0) (off:=0) this
  cases h
 case buildSlice t n parts=>
  split at h
  ·rename_i e he
   split at h
   ·rename_i k by' z els hi hp
    cases hb:(Nat.beq els.length n && els.all (fun d=>Nat.beq d.length k) && Nat.ble (n * k) 16777216 && Nat.beq z.length k && Nat.blt 0 n && Nat.blt 0 k) with
    | false=>rw [hb] at h;cases h
    | true=>
     rw [hb] at h
     injection h with h
     injection h with h1 h2
     subst h1
     subst h2
     simp only [Bool.and_eq_true] at hb
     obtain ⟨⟨⟨⟨⟨b1,b2⟩,b3⟩,b4⟩,b5⟩,b6⟩:=hb
     have b1:=Nat.eq_of_beq_eq_true b1
     have b3:=Nat.le_of_ble_eq_true b3
     have b4:=Nat.eq_of_beq_eq_true b4
     have b5:0 < n:=by simp [Nat.blt] at b5;omega
     have b6:0 < k:=by simp [Nat.blt] at b6;omega
     have b2:∀ d∈els,d.length=k:=fun d hd=>Nat.eq_of_beq_eq_true (List.all_eq_true.1 b2 d hd)
     obtain ⟨p1,p2,p3⟩:=Qpw hρ hp
     have hpl:parts.toList.length=n:=by rw [<- p2,b1]
     obtain ⟨zv,e1,e2⟩:=hT.zero hi C.w
     -- the parts' values
     let pv:List (Nat × Value):=parts.toList.map fun p=>(p.1,ρ p.2)
     have hpv:∀ (i:Nat) (ds:List DV),els[i]? = some ds->∃ q:Nat × Value,pv[i]? = some q/\VRs C.w (C.ok X) ds q.2.cells.toList:=by
      intro i ds hi'
      obtain ⟨p,h1,h2⟩:=p3 i ds hi'
      exact ⟨(p.1,ρ p.2),by simp [pv,h1],h2⟩
     have hsz:∀ q∈pv,q.2.cells.size=k:=by
      intro q hq
      obtain ⟨i,hi',hq⟩:=List.mem_iff_getElem.1 hq
      have hlt:i < els.length:=by simpa [pv,p2] using hi'
      obtain ⟨q',h1,h2⟩:=hpv i els[i] (List.getElem?_eq_getElem hlt)
      have:q'=q:=by
       rw [List.getElem?_eq_getElem hi'] at h1
       injection h1 with h1
       rw [<- h1,hq]
      subst this
      have:=h2.length
      rw [b2 _ (List.getElem_mem hlt)] at this
      simpa using this.symm
     let cells:List Value:=(pv.map fun q=>q.2.cells.toList).flatten
     have hcl:∀ l∈pv.map (fun q=>q.2.cells.toList),l.length=k:=by
      intro l hl'
      obtain ⟨q,hq,rfl⟩:=List.mem_map.1 hl'
      simpa using hsz q hq
     have hfill:Instr.fill (fun i=>some (i * k,k)) ((Array.range (n * k)).map (zv.cells[· % zv.cells.size]!)) pv=some cells.toArray:=by
      have:=Qud k n pv 0 ((Array.range (n * k)).map (zv.cells[· % zv.cells.size]!)).toList (by simp) hsz (by rw [show pv.map (·.1)=parts.toList.map (·.1) from by simp only [pv,List.map_map];rfl,p1];simp [pv]) (by simp [pv,hpl])
      simp only [Array.toArray_toList] at this
      rw [this]
      have hpl':pv.length=n:=by simp [pv,hpl]
      simp only [Nat.zero_mul,List.take_zero,List.nil_append,Nat.zero_add,hpl']
      rw [List.drop_of_length_le (by simp),List.append_nil,List.flatMap_def]
     have hcs:cells.length=n * k:=by
      simp only [cells]
      rw [Qo6 hcl]
      simp [pv,hpl]
     have ev:=Ev.push hC (.cells cells.toArray e) (.flat false k e n (fun j=>els.getD j []))
     have Qyx:∀ i,i < n->∃ q:Nat × Value,pv[i]? = some q/\VRs C.w (C.ok X) (els.getD i []) q.2.cells.toList:=by
      intro i hi'
      obtain ⟨q,h1,h2⟩:=hpv i els[i] (List.getElem?_eq_getElem (by omega))
      refine ⟨q,h1, ?_⟩
      rw [List.getD_eq_getElem?_getD,List.getElem?_eq_getElem (show i < els.length by omega)]
      exact h2
     refine ⟨C.push (.cells cells.toArray e) (.flat false k e n (fun j=>els.getD j [])),rfl,Wt.push hC ?_,ev, ?_⟩
     ·refine ⟨cells.toArray,fun i=>((pv.map fun q=>q.2.cells.toList).getD i []),heap_alloc_new _ _,by simp [hcs], ?_, ?_, ?_⟩
      ·intro i hi'
       obtain ⟨q,h1,h2⟩:=Qyx i hi'
       have:(pv.map fun q=>q.2.cells.toList)[i]? = some q.2.cells.toList:=by simp [h1]
       show (List.getD _ i []).length=k
       rw [List.getD_eq_getElem?_getD,this]
       exact hcl _ (List.mem_of_getElem? this)
      ·intro i hi'
       obtain ⟨q,h1,h2⟩:=Qyx i hi'
       have:(pv.map fun q=>q.2.cells.toList)[i]? = some q.2.cells.toList:=by simp [h1]
       show VRs _ _ _ (List.getD _ i [])
       rw [List.getD_eq_getElem?_getD (l:=pv.map _),this]
       exact h2.mono ev.ok ev.same
      intro i j v hi' hj
      obtain ⟨q,h1,h2⟩:=Qyx i hi'
      have:(pv.map fun q=>q.2.cells.toList)[i]? = some q.2.cells.toList:=by simp [h1]
      have hj:(List.getD (pv.map fun q=>q.2.cells.toList) i [])[j]? = some v:=hj
      rw [List.getD_eq_getElem?_getD,this] at hj
      have:=Qmr hcl this hj
      rw [List.getElem?_toArray]
      exact this
     refine ⟨.slice (some ⟨C.w.heap.size,0,none⟩) n n, ?_, ?_⟩
     ·have hs:=hT.size hi C.w
      have hpm:(parts.map fun (i,x)=>(i,ρ x)).toList=pv:=by simp [pv]
      simp only [execOp,ho,Instr.buildSlice,Sem.run_bind,run_underlying (hT.slice he),Result.andThen_ok,hs]
      rw [if_neg (by omega),if_neg (by have:=Nat.mul_pos b5 b6;omega)]
      simp only [Sem.run_bind,Sem.run_pure,Result.andThen_ok,e1,hpm,hfill,newRow,run_newObj]
      rfl
     have:(C.push (.cells cells.toArray e) (.flat false k e n (fun j=>els.getD j []))).μ[C.rows.length]? = some (some C.w.heap.size):=by simp [Qq.push,<- hl]
     have hm:n<=maxLen:=by
      have:n<=n * k:=Nat.le_mul_of_pos_right _ b6
      simp only [maxLen]
      omega
     have k2:=Zj.own (w:=(C.push (.cells cells.toArray e) (.flat false k e n (fun j=>els.getD j []))).w) (ok:=(C.push (.cells cells.toArray e) (.flat false k e n (fun j=>els.getD j []))).ok X) (off:=0) (k:=k) this
      (heap_alloc_new C.w (.cells cells.toArray e)) (by simp [hcs]) (Nat.le_refl _) hm
     rw [Nat.zero_mul] at k2
     exact k2
   cases h
  cases h
 case load t x=>
  split at h
  ·rename_i p hp
   obtain ⟨a,ha,e⟩:=Option.map_eq_some_iff.1 h
   injection e with e1 e2
   subst e1
   subst e2
   obtain ⟨v,h1,h2⟩:=Qzo hT hC (hρ _ _ hp) ha
   exact ⟨C,rfl,hC,Ev.refl _ _,v,by simp only [execOp,ho];rw [Sem.run_bind,h1];rfl,h2⟩
  cases h
 case store t x y=>
  split at h
  ·rename_i p a hp ha
   obtain ⟨r,hr,e⟩:=Option.map_eq_some_iff.1 h
   injection e with e1 e2
   subst e1
   subst e2
   obtain ⟨C',h1,h2,h3,h4⟩:=Wik hT hC (hρ _ _ hp) (hρ _ _ ha) hr
   exact ⟨C',h2,h3,h4,by unfold Wlk;simp only [execOp,ho];rw [Sem.run_bind,h1];rfl⟩
  cases h
end
end Go.Sy
