/- Core and judge: contracts of a queue as one row; the sort of entries by their stamps. -/
import Derived.Test.YticmlllaimjdcaaGreatG15zC
import Derived.Test.YticmlllaimjdcaaGreatG15zI
import Derived.Test.YticmlllaimjdcaaGreatG15zW
import Derived.Test.YticmlllaimjdcaaGreatG15zS
import Derived.Test.YticmlllaimjdcaaGreatSyPtr
import Derived.Test.YticmlllaimjdcaaGreatP15zhQ
set_option linter.unusedVariables false
set_option linter.unusedSimpArgs false
namespace Go.SyP
open Go Go.Sy Go.Proofs Go.Sort
abbrev qO (q:QL):Ql1:=swO Qd.e Qd.nl 178 171 172 (QI q.l)
abbrev qR (q:QL):Row:=.obj (qO q)
theorem Qyn (q:QL) (c:Int):Yn Tryz.prog 72 [qR q] [.ptr 0 0 0 0,.i c] [qR q] (.i (Qj9 q c)):=
 Wfo (args:=[.i c]) (fun _=>rfl) (.d (.v _)) fun l M h hn=>⟨l,l,M,h,fun _ h=>h,hn,Qgd.Wl ⟨⟨l⟩⟩ c l M (Wiw h c)⟩
def Qqe:QL:=⟨[],⟨.nil,.nil,fun _ h=>by cases h⟩⟩
theorem Wj5 (M:Nat->Qd):QI [] [] M:=⟨⟨fun _ h=>h,.nil,fun _ h=>absurd h (Nat.not_lt_zero _),by decide⟩,.refl _,fun c h1 h2=>absurd h2 (Nat.not_lt_zero _),Qqe.good⟩
theorem Wfi:Yn Tryz.prog 70 [] [] [qR Qqe] (.ptr 0 0 0 0):=by
 refine Xt Tryz.func70 rfl (nt:=3) rfl (lb rfl) fun X hP h0 hX=>?_
 have hT:Xl X.P T:=hP▸tok
 have hf:X.P.funcs[70]? = some Tryz.f70:=hP▸Tryz.func70
 refine Qi hT 10 (K70 11 1) ⟨3,[(0,.ptr 0 0 0 0)],[.box 171 [.ns]]⟩ ?_
 refine Qpp (tb:=171) (cs:=[.ns]) 0 0 1 172 (vec eA 0 []) (st':=⟨3,[(0,.ptr 0 0 0 0)],[.box 171 [.own 1 1 0 0],.flat false 1 172 0 (vec eA 0 [])]⟩) (by kernel_rfl) (by kernel_rfl) ?_
 refine Wf9 Qd.e Qd.nl 178 (fun _=>Qd.z) ?_
 refine Qqv (e:=Qd.e) (he:=Qd.nl) (ty:=178) (tq:=171) (te:=172) (QI Qqe.l) (N:=1) (A:=2) (l:=[]) (dom:=[]) (M:=fun _=>Qd.z) 0 rfl rfl rfl (fun _ h=>h) .nil (Wj5 _) ?_
 exact Qi8 hf hX (av:=.ptr 0 0 0 0) (by kernel_rfl) [0] (Qb1 rfl) (by decide) (by rw [h0];rfl) (by kernel_rfl) (ac (.obj _) an) (.ptr _ _ _ _)
noncomputable def Wb2 (q:QL) (h:Yo):Option (Int × QL):=
 (Qbn h.M).bind fun ck=>
 if h.M.Pairs.length<=1000000/\q.l.length<=1000000 then
  some (if ck=true/\Qmj h.Time=true then Quh q h else (1,q))
 else none
theorem Wj4 {L:List Yo} {l:List Nat} {M:Nat->Qd} (h:QI L l M) {y:Yo} {a:Nat} (ha:a ∉ l) (hb:L.length<=1000000) (hg:Good (Qh5 y L)):
  ∃ l' M',Qem ⟨⟨l⟩⟩ a (l ++ [a]) (upd M a ⟨y,0⟩)=some (⟨⟨l'⟩⟩,M')/\QI (Qh5 y L) l' M'/\(∀ b∈l',b∈l ++ [a])/\l'.Nodup:=by
 have hne:∀ b,b∈l->upd M a (⟨y,0⟩:Qd) b=M b:=fun b hb=>by
  have:b≠a:=fun e=>ha (e▸hb)
  simp [upd,this]
 have hs:HS (l ++ [a]) l (upd M a ⟨y,0⟩):=⟨fun b hb=>List.mem_append.2 (.inl hb),h.hs.nd,fun i hi=>by rw [hne _ (Qgc hi)];exact h.hs.at_ i hi,h.hs.len⟩
 have hK:∀ i,i < l.length->Kf (fun x=>Qcp (upd M a (⟨y,0⟩:Qd) x).h) l i=Kf (fun x=>Qcp (M x).h) l i:=fun i hi=>by
  show Qcp (upd M a (⟨y,0⟩:Qd) (l.getD i 0)).h=Qcp (M (l.getD i 0)).h
  rw [hne _ (Qgc hi)]
 have hh:Heap (fun x=>Qcp (upd M a (⟨y,0⟩:Qd) x).h) l l.length:=fun c h1 h2=>by
  rw [hK _ (by omega),hK _ h2]
  exact h.heap c h1 h2
 have hlen:=h.len
 obtain ⟨l',M',e1,e2,e3,e4,e5⟩:=Wff hs hh (List.mem_append.2 (.inr (List.mem_singleton.2 rfl))) ha (by omega)
 have hκ:(fun x=>Qcp (M' x).h)=fun x=>Qcp (upd M a (⟨y,0⟩:Qd) x).h:=by funext x;rw [e4]
 refine ⟨l',M',e1,⟨e2.own, ?_,by rw [hκ];exact e5,hg⟩,fun b hb=>e3.mem_iff.1 hb,e2.nd⟩
 have e6:(l'.map fun b=>(M' b).h)=l'.map fun b=>(upd M a (⟨y,0⟩:Qd) b).h:=List.map_congr_left fun b _=>e4 b
 have e7:(l.map fun b=>(upd M a (⟨y,0⟩:Qd) b).h)=l.map fun b=>(M b).h:=List.map_congr_left fun b hb=>by rw [hne b hb]
 rw [e6]
 refine (e3.map _).trans ?_
 rw [List.map_append,e7]
 have e8:([a].map fun b=>(upd M a (⟨y,0⟩:Qd) b).h)=[y]:=by simp [upd]
 rw [e8]
 exact (h.perm.append_right [y]).trans ((List.perm_append_singleton y L).trans (Qjr y L).symm)
theorem Wfh (q:QL) (a1:Yo) {r:Int × QL} (H:Wb2 q a1=some r):Yn Tryz.prog 71 [qR q] [.ptr 0 0 0 0,.d (Qj1 a1)] [qR r.2] (.i r.1):=by
 unfold Wb2 at H
 obtain ⟨v1,h1,H⟩:=Option.bind_eq_some_iff.1 H
 have hb:a1.M.Pairs.length<=1000000/\q.l.length<=1000000:=by
  by_cases h:a1.M.Pairs.length<=1000000/\q.l.length<=1000000
  ·exact h
  rw [if_neg h] at H;cases H
 rw [if_pos hb] at H
 injection H with H
 refine Xt Tryz.func71 rfl (nt:=40) rfl (lb rfl) fun X hP h0 hX=>?_
 have hT:Xl X.P T:=hP▸tok
 have hf:X.P.funcs[71]? = some Tryz.f71:=hP▸Tryz.func71
 refine Wim (e:=Qd.e) (he:=Qd.nl) (ty:=178) (tq:=171) (te:=172) (I:=QI q.l) 0 rfl fun l M hq hn=>?_
 show AK X 71 _ _ ⟨40,[(0,.ptr 0 0 0 0),(1,.d (Qj1 a1))],[.box 171 [.own 1 1 0 l.length],Yh l,.obj (Zf Qd.e Qd.nl 178 l M)]⟩
 refine Qf0 1 (r:=Yh l) rfl rfl (st':=⟨40,[(0,.ptr 0 0 0 0),(1,.d (Qj1 a1))],[.box 171 [.own 3 1 0 l.length],.gone,.obj (Zf Qd.e Qd.nl 178 l M),Yh l]⟩) (by kernel_rfl) (by kernel_rfl) rfl ?_
 refine Qi hT 14 (K71 11000 5) ⟨40,[(0,.ptr 0 0 0 0),(3,.ptr 4 0 0 0),(8,.b false),(10,.d (Qaq a1.M))],[.box 171 [.own 3 1 0 l.length],.gone,.obj (Zf Qd.e Qd.nl 178 l M),Yh l,.box 130 (Qei a1)]⟩ ?_
 have Zl:∀ (Qln:Bool),r=(if Qln=true then (1,q) else Quh q a1)->AK X 71 ((K71 1100 1)) (Jb X [qR r.2] (.i r.1)) ⟨40,[(0,.ptr 0 0 0 0),(3,.ptr 3 0 0 0),(5,.b Qln)],[.box 171 [.own 4 1 0 l.length],.gone,.obj (Zf Qd.e Qd.nl 178 l M),.box 130 (Qei a1),Yh l]⟩:=by
  intro Qln H
  by_cases c3:Qln=true
  ·rw [if_pos c3] at H
   subst H
   rw [c3]
   refine Qi hT 5 (K71 110010 1) ⟨40,[(4,.i 1)],[.box 171 [.own 4 1 0 l.length],.gone,.obj (Zf Qd.e Qd.nl 178 l M),.box 130 (Qei a1),Yh l]⟩ ?_
   refine Qqv (e:=Qd.e) (he:=Qd.nl) (ty:=178) (tq:=171) (te:=172) (QI q.l) (N:=4) (A:=2) (l:=l) (dom:=l) (M:=M) 0 rfl rfl rfl (fun _ h=>h) hn hq ?_
   exact Qi8 hf hX (av:=.i 1) (by kernel_rfl) [0] (Qb1 rfl) (by decide) (by rw [h0];rfl) (by kernel_rfl) (ac (.obj _) an) (.d (.v _))
  rw [if_neg c3] at H
  rw [boF c3]
  refine Qi hT 10 (K71 1100110 7) ⟨40,[(0,.ptr 0 0 0 0),(3,.ptr 3 0 0 0),(21,.ptr 0 0 0 0),(24,.i a1.M.Client),(27,.i a1.M.Seq)],[.box 171 [.own 4 1 0 l.length],.gone,.obj (Zf Qd.e Qd.nl 178 l M),.box 130 (Qei a1),Yh l]⟩ ?_
  obtain ⟨o,h4,ho⟩:=Wju hq a1.M.Client a1.M.Seq
  have Sq5:=Za.Wl ⟨⟨l⟩⟩ a1.M.Client a1.M.Seq l M h4
  rcases ho with ⟨rfl,ho⟩ | ⟨i,hi,rfl,ho⟩
  ·refine Wj (Xw:=[.ptr 0 0 0 0,.i a1.M.Client,.i a1.M.Seq]) (dst:=some 28) (k':=(K71 1100110 8)) [0,3,28] [0,4,2] hP Qs5 (Sq5) (by kernel_rfl) (Qd6 rfl rfl rfl (by decide)) (.cons (.same (.ptr 0 0 0 0)) (.cons (Qn _) (.cons (Qn _) .nil))) (st':=⟨40,[(0,.ptr 0 0 0 0),(3,.ptr 3 0 0 0),(28,.d .np)],[.box 171 [.own 5 1 0 l.length],.gone,.obj (Zf Qd.e Qd.nl 178 l M),.box 130 (Qei a1),.gone,Yh l]⟩) (by kernel_rfl) ?_
   refine Qi hT 6 (K71 11 1) ⟨40,[(0,.ptr 0 0 0 0),(3,.ptr 3 0 0 0)],[.box 171 [.own 5 1 0 l.length],.gone,.obj (Zf Qd.e Qd.nl 178 l M),.box 130 (Qei a1),.gone,Yh l]⟩ ?_
   refine Qi hT 1 (K71 111 0) ⟨40,[(0,.ptr 0 0 0 0),(3,.ptr 3 0 0 0)],[.box 171 [.own 5 1 0 l.length],.gone,.obj (Zf Qd.e Qd.nl 178 l M),.box 130 (Qei a1),.gone,Yh l]⟩ ?_
   refine Qfn (nt:=40) (hP▸mixed) 9 [7] [0,3] [(0,.ptr 0 0 0 0),(3,.ptr 3 0 0 0)] (sm [.ptr 0 0 0 0,.ptr 0 0 0 0,.ptr 0 0 0 0,.ifc 175 (.ptr 0 0 0 0),.d (Qj1 a1),.d (Qj1 a1),.d (.agg [.i a1.M.Client,.i a1.M.Seq,.i a1.M.Kind,Xj true a1.M.Pairs,.i a1.M.Over.Lo,.i a1.M.Over.Hi,.i a1.M.Old,.i a1.Time,.b a1.Qda,.i 0]),.ptr 6 0 0 0,.ifc 172 (.ptr 6 0 0 0)]) [[.box 171 [.own 5 1 0 l.length],.gone,.obj (Zf Qd.e Qd.nl 178 l M),.box 130 (Qei a1),.gone,Yh l],[.box 171 [.own 5 1 0 l.length],.gone,.obj (Zf Qd.e Qd.nl 178 l M),.box 130 (Qei a1),.gone,Yh l,.box 178 [.i a1.M.Client,.i a1.M.Seq,.i a1.M.Kind,.d (Xj true a1.M.Pairs),.i a1.M.Over.Lo,.i a1.M.Over.Hi,.i a1.M.Old,.i a1.Time,.b a1.Qda,.i 0]]] (by kernel_rfl) (by kernel_rfl) (by kernel_rfl) (by kernel_rfl) ⟨?_,(Ql0 hT),?_⟩ ?_
   iterate 2 exact (Ya (Qil (Ya (Qik (Ya (Ya (Ya (Ya (Ya Qmf hT) hT) hT) hT) hT) (fun R rest h=>Jz (Xw:=[.d (Qj1 a1)]) (dst:=some 35) hP Qz8 (Qdo.Wl a1 (Wj1 hb.1)) (by kernel_rfl) (.cons (Qn _) .nil) (by kernel_rfl) h)) hT)) hT)
   refine Qi hT 0 (K71 1110 9) ⟨40,[(33,.ifc 175 (.ptr 0 0 0 0)),(38,.ifc 172 (.ptr 6 0 0 0))],[.box 171 [.own 5 1 0 l.length],.gone,.obj (Zf Qd.e Qd.nl 178 l M),.box 130 (Qei a1),.gone,Yh l,.box 178 [.i a1.M.Client,.i a1.M.Seq,.i a1.M.Kind,.d (Xj true a1.M.Pairs),.i a1.M.Over.Lo,.i a1.M.Over.Hi,.i a1.M.Old,.i a1.Time,.b a1.Qda,.i 0]]⟩ ?_
   refine Wcp 6 2 (⟨a1,0⟩:Qd) (by decide) (by kernel_rfl) (by kernel_rfl) fun na hna=>⟨⟨40,[(33,.ifc 175 (.ptr 0 0 0 0)),(38,.d (.ifc 172 (pA na 0)))],[.box 171 [.own 5 1 0 l.length],.gone,.obj (Zf Qd.e Qd.nl 178 (l ++ [na]) (upd M na (⟨a1,0⟩:Qd))),.box 130 (Qei a1),.gone,Yh l,.gone]⟩,(by
    intro j av hj
    by_cases e1:j=33
    ·subst e1
     refine ⟨_,rfl,.inl ?_⟩
     simpa [List.lookup] using hj.symm
    by_cases e2:j=38
    ·subst e2
     refine ⟨_,rfl,.inr (.inr ⟨172,0,rfl, ?_⟩)⟩
     simpa [List.lookup] using hj.symm
    have:([(33,.ifc 175 (.ptr 0 0 0 0)),(38,.d (.ifc 172 (pA na 0)))]:List (Nat × AV)).lookup j=none:=by
     simp [List.lookup,beq_eq_false_iff_ne.2 e1,beq_eq_false_iff_ne.2 e2]
    rw [this] at hj
    cases hj),rfl,rfl, ?_⟩
   have hr:∃ hg,r=(0,⟨Qh5 a1 q.l,hg⟩):=by
    rw [H]
    unfold Quh
    split
    ·rename_i x e;rw [ho] at e;cases e
    rename_i e;exact ⟨Qsa q.good ho hb.1,by rw [dif_pos hb.1]⟩
   obtain ⟨hg,rfl⟩:=hr
   obtain ⟨l',M',e1,e2,e3,e4⟩:=Wj4 hq hna hb.2 hg
   refine Wj (Xw:=[.ifc 175 (.ptr 0 0 0 0),.d (.ifc 172 (pA na 0))]) (dst:=some 39) (k':=(K71 1110 10)) [] [0,5,2] hP Qz7 (Qem.Wl ⟨⟨l⟩⟩ na (l ++ [na]) (upd M na (⟨a1,0⟩:Qd)) e1) (by kernel_rfl) (Qd6 rfl rfl rfl (by decide)) (.cons (.same (.ifc 175 (.ptr 0 0 0 0))) (.cons (Qn _) .nil)) (st':=⟨40,[],[.box 171 [.own 7 1 0 l'.length],.gone,.obj (Zf Qd.e Qd.nl 178 (l ++ [na]) M'),.box 130 (Qei a1),.gone,.gone,.gone,Yh l']⟩) (by kernel_rfl) ?_
   refine Qi hT 5 (K71 1111 1) ⟨40,[(4,.i 0)],[.box 171 [.own 7 1 0 l'.length],.gone,.obj (Zf Qd.e Qd.nl 178 (l ++ [na]) M'),.box 130 (Qei a1),.gone,.gone,.gone,Yh l']⟩ ?_
   refine Qqv (e:=Qd.e) (he:=Qd.nl) (ty:=178) (tq:=171) (te:=172) (QI (Qh5 a1 q.l)) (N:=7) (A:=2) (l:=l') (dom:=l ++ [na]) (M:=M') 0 rfl rfl rfl e3 e4 e2 ?_
   exact Qi8 hf hX (av:=.i 0) (by kernel_rfl) [0] (Qb1 rfl) (by decide) (by rw [h0];rfl) (by kernel_rfl) (ac (.obj _) an) (.d (.v _))
  have hr:r=(7,q):=by
   rw [H]
   unfold Quh
   split
   ·rfl
   rename_i e;rw [ho] at e;cases e
  subst hr
  refine Wj (Xw:=[.ptr 0 0 0 0,.i a1.M.Client,.i a1.M.Seq]) (dst:=some 28) (k':=(K71 1100110 8)) [0,3,28] [0,4,2] hP Qs5 (Sq5) (by kernel_rfl) (Qd6 rfl rfl rfl (by decide)) (.cons (.same (.ptr 0 0 0 0)) (.cons (Qn _) (.cons (Qn _) .nil))) (st':=⟨40,[(0,.ptr 0 0 0 0),(3,.ptr 3 0 0 0),(28,.d (pA (l.getD i 0) 0))],[.box 171 [.own 5 1 0 l.length],.gone,.obj (Zf Qd.e Qd.nl 178 l M),.box 130 (Qei a1),.gone,Yh l]⟩) (by kernel_rfl) ?_
  refine Qi hT 8 (K71 11001110 1) ⟨40,[(4,.i 7)],[.box 171 [.own 5 1 0 l.length],.gone,.obj (Zf Qd.e Qd.nl 178 l M),.box 130 (Qei a1),.gone,Yh l]⟩ ?_
  refine Qqv (e:=Qd.e) (he:=Qd.nl) (ty:=178) (tq:=171) (te:=172) (QI q.l) (N:=5) (A:=2) (l:=l) (dom:=l) (M:=M) 0 rfl rfl rfl (fun _ h=>h) hn hq ?_
  exact Qi8 hf hX (av:=.i 7) (by kernel_rfl) [0] (Qb1 rfl) (by decide) (by rw [h0];rfl) (by kernel_rfl) (ac (.obj _) an) (.d (.v _))
 refine Wj (Xw:=[.d (Qaq a1.M)]) (dst:=some 11) (k':=(K71 11000 6)) [0,3,8,11] [] hP Qha (Qbn.Wl a1.M h1) (by kernel_rfl) (Qz _) (.cons (Qn _) .nil) (st':=⟨40,[(0,.ptr 0 0 0 0),(3,.ptr 4 0 0 0),(8,.b false),(11,.b v1)],[.box 171 [.own 3 1 0 l.length],.gone,.obj (Zf Qd.e Qd.nl 178 l M),Yh l,.box 130 (Qei a1)]⟩) (by kernel_rfl) ?_
 refine Qi hT 3 (K71 11000 9) ⟨40,[(0,.ptr 0 0 0 0),(3,.ptr 4 0 0 0),(14,.b (!v1))],[.box 171 [.own 3 1 0 l.length],.gone,.obj (Zf Qd.e Qd.nl 178 l M),Yh l,.box 130 (Qei a1)]⟩ ?_
 by_cases c2:v1=true
 ·skip
  rw [c2]
  refine Qi hT 2 (K71 11000 11) ⟨40,[(0,.ptr 0 0 0 0),(3,.ptr 4 0 0 0),(14,.b false),(16,.i a1.Time)],[.box 171 [.own 3 1 0 l.length],.gone,.obj (Zf Qd.e Qd.nl 178 l M),Yh l,.box 130 (Qei a1)]⟩ ?_
  refine Wj (Xw:=[.i a1.Time]) (dst:=some 17) (k':=(K71 11000 12)) [0,3,14,17] [] hP Qz6 (Qdp.Wl a1.Time) (by kernel_rfl) (Qz _) (.cons (Qn _) .nil) (st':=⟨40,[(0,.ptr 0 0 0 0),(3,.ptr 4 0 0 0),(14,.b false),(17,.b (Qdp a1.Time))],[.box 171 [.own 3 1 0 l.length],.gone,.obj (Zf Qd.e Qd.nl 178 l M),Yh l,.box 130 (Qei a1)]⟩) (by kernel_rfl) ?_
  refine Qi hT 4 (K71 1100 1) ⟨40,[(0,.ptr 0 0 0 0),(3,.ptr 4 0 0 0),(5,.b (!(Qdp a1.Time)))],[.box 171 [.own 3 1 0 l.length],.gone,.obj (Zf Qd.e Qd.nl 178 l M),Yh l,.box 130 (Qei a1)]⟩ ?_
  refine Qkp [0,1,2,4,3] ⟨40,[(0,.ptr 0 0 0 0),(3,.ptr 3 0 0 0),(5,.b (!(Qdp a1.Time)))],[.box 171 [.own 4 1 0 l.length],.gone,.obj (Zf Qd.e Qd.nl 178 l M),.box 130 (Qei a1),Yh l]⟩ h0 ?_
  exact Zl (!(Qdp a1.Time)) (by rw [<- H,Whs,c2];cases Qmj a1.Time<;>simp)
 skip
 rw [boF c2]
 refine Qi hT 7 (K71 1100 1) ⟨40,[(0,.ptr 0 0 0 0),(3,.ptr 4 0 0 0),(5,.b true)],[.box 171 [.own 3 1 0 l.length],.gone,.obj (Zf Qd.e Qd.nl 178 l M),Yh l,.box 130 (Qei a1)]⟩ ?_
 refine Qkp [0,1,2,4,3] ⟨40,[(0,.ptr 0 0 0 0),(3,.ptr 3 0 0 0),(5,.b true)],[.box 171 [.own 4 1 0 l.length],.gone,.obj (Zf Qd.e Qd.nl 178 l M),.box 130 (Qei a1),Yh l]⟩ h0 ?_
 exact Zl true (by rw [<- H,if_neg (fun h=>c2 h.1)];rfl)
noncomputable def Qbu (a b:Qc):Int:=Qwy ⟨a.Time,a.M.Client,a.M.Seq⟩ ⟨b.Time,b.M.Client,b.M.Seq⟩
theorem Qsj (a b:Qc):Qhr a b=some (Qbu a b):=by
 unfold Qhr bnd
 simp only [Qis,Option.bind_some]
 rfl
theorem Qpb (a b:Qc):Yn Tryz.prog 26 [] [.d (Qd2 a),.d (Qd2 b)] [] (.i (Qbu a b)):=Qhr.Wl a b (Qsj a b)
theorem Qq1 (x y:Qc):ltOf Qbu x y=true↔ltS ⟨x.Time,x.M.Client,x.M.Seq⟩ ⟨y.Time,y.M.Client,y.M.Seq⟩:=by
 unfold ltOf Qbu
 simp only [decide_eq_true_eq]
 exact Qnu _ _
theorem Qgk:SWO (ltOf Qbu) where
 irrefl x:=by
  rw [Bool.eq_false_iff,ne_eq,Qq1]
  unfold ltS
  omega
 trans x y z h1 h2:=by
  rw [Qq1] at *
  unfold ltS at *
  simp only at *
  omega
 ntrans x y z h1 h2:=by
  rw [Bool.eq_false_iff,ne_eq,Qq1] at *
  unfold ltS at *
  simp only at *
  omega
theorem Wkb {g:FuncId} (eg:Sy.Enters Tryz.prog g) (cf:Qc->Qc->Int) (hO:SWO (ltOf cf))
  (hs:∀ x y,Yn Tryz.prog g [] [.d (.agg (Qc.e x)),.d (.agg (Qc.e y))] [] (.d (.v (.int .i64 (cf x y))))) (xs:List Qc) (hb:xs.length * 88<=140737488355328):
  Yn Tryz.prog 25 [Yl xs] [.own 0 9 0 xs.length,.d (.fn g [])] [.flat false 9 50 xs.length (vec Qc.e Qc.z (Qd8 Qc.z cf xs))] (.Qq []):=
 Wcb Tryz.Whq Qc.z 9 (fun w=>by kernel_rfl) (fun w=>by kernel_rfl) Qc.e Qc.nl cf hO g (fun args w=>eg args w) hs (by omega)
end Go.SyP
