/- Core and judge: contracts of a queue as one row; the sort of entries by their stamps. -/
import Derived.Test.YticmlllaimjdcaaGreatG15zC
import Derived.Test.YticmlllaimjdcaaGreatG15zI
import Derived.Test.YticmlllaimjdcaaGreatG15zW
import Derived.Test.YticmlllaimjdcaaGreatG15zS
import Derived.Test.YticmlllaimjdcaaGreatSyPtr
import Derived.Test.YticmlllaimjdcaaGreatP15zhQ
set_option linter.unusedVariables false
set_option linter.unusedSimpArgs false
namespace Go.SyP
open Go Go.Sy Go.Proofs Go.Sort
abbrev qO (q:QL):Qmy:=swO Qh.e Qh.nl 178 171 172 (QI q.l)
abbrev qR (q:QL):Row:=.obj (qO q)
theorem Qzz (q:QL) (c:Int):Xz Tryz.prog 72 [qR q] [.ptr 0 0 0 0,.i c] [qR q] (.i (Qnd q c)):=
 Whf (args:=[.i c]) (fun _=>rfl) (.d (.v _)) fun l M h hn=>⟨l,l,M,h,fun _ h=>h,hn,Qg6.Qy ⟨⟨l⟩⟩ c l M (Wkk h c)⟩
def Qra:QL:=⟨[],⟨.nil,.nil,fun _ h=>by cases h⟩⟩
theorem Wlz (M:Nat->Qh):QI [] [] M:=⟨⟨fun _ h=>h,.nil,fun _ h=>absurd h (Nat.not_lt_zero _),by decide⟩,.refl _,fun c h1 h2=>absurd h2 (Nat.not_lt_zero _),Qra.good⟩
theorem Wg9:Xz Tryz.prog 70 [] [] [qR Qra] (.ptr 0 0 0 0):=by
 refine Xj Tryz.func70 rfl (nt:=3) rfl (lb rfl) fun X hP h0 hX=>?_
 have hT:Xb X.P T:=hP▸tok
 have hf:X.P.funcs[70]? = some Tryz.f70:=hP▸Tryz.func70
 refine Xl hT 10 (K70 11 1) ⟨3,[(0,.ptr 0 0 0 0)],[.box 171 [.ns]]⟩ ?_
 refine Qjc (tb:=171) (cs:=[.ns]) 0 0 1 172 (vec eA 0 []) (st':=⟨3,[(0,.ptr 0 0 0 0)],[.box 171 [.own 1 1 0 0],.flat false 1 172 0 (vec eA 0 [])]⟩) (by kernel_rfl) (by kernel_rfl) ?_
 refine Wh1 Qh.e Qh.nl 178 (fun _=>Qh.z) ?_
 refine Qrn (e:=Qh.e) (he:=Qh.nl) (ty:=178) (tq:=171) (te:=172) (QI Qra.l) (N:=1) (A:=2) (l:=[]) (dom:=[]) (M:=fun _=>Qh.z) 0 rfl rfl rfl (fun _ h=>h) .nil (Wlz _) ?_
 exact Qjd hf hX (av:=.ptr 0 0 0 0) (by kernel_rfl) [0] (Qbu rfl) (by decide) (by rw [h0];rfl) (by kernel_rfl) (ac (.obj _) an) (.ptr _ _ _ _)
noncomputable def Wdl (q:QL) (h:Yl):Option (Int × QL):=
 (Qbx h.M).bind fun ck=>
 if h.M.Pairs.length<=1000000/\q.l.length<=1000000 then
  some (if ck=true/\Qnh h.Time=true then Qvj q h else (1,q))
 else none
theorem Wlx {L:List Yl} {l:List Nat} {M:Nat->Qh} (h:QI L l M) {y:Yl} {a:Nat} (ha:a ∉ l) (hb:L.length<=1000000) (hg:Good (Qi5 y L)):
  ∃ l' M',Qe7 ⟨⟨l⟩⟩ a (l ++ [a]) (upd M a ⟨y,0⟩)=some (⟨⟨l'⟩⟩,M')/\QI (Qi5 y L) l' M'/\(∀ b∈l',b∈l ++ [a])/\l'.Nodup:=by
 have hne:∀ b,b∈l->upd M a (⟨y,0⟩:Qh) b=M b:=fun b hb=>by
  have:b≠a:=fun e=>ha (e▸hb)
  simp [upd,this]
 have hs:HS (l ++ [a]) l (upd M a ⟨y,0⟩):=⟨fun b hb=>List.mem_append.2 (.inl hb),h.hs.nd,fun i hi=>by rw [hne _ (Qg5 hi)];exact h.hs.at_ i hi,h.hs.len⟩
 have hK:∀ i,i < l.length->Kf (fun x=>Qdi (upd M a (⟨y,0⟩:Qh) x).h) l i=Kf (fun x=>Qdi (M x).h) l i:=fun i hi=>by
  show Qdi (upd M a (⟨y,0⟩:Qh) (l.getD i 0)).h=Qdi (M (l.getD i 0)).h
  rw [hne _ (Qg5 hi)]
 have hh:Heap (fun x=>Qdi (upd M a (⟨y,0⟩:Qh) x).h) l l.length:=fun c h1 h2=>by
  rw [hK _ (by omega),hK _ h2]
  exact h.heap c h1 h2
 have hlen:=h.len
 obtain ⟨l',M',e1,e2,e3,e4,e5⟩:=Wg6 hs hh (List.mem_append.2 (.inr (List.mem_singleton.2 rfl))) ha (by omega)
 have hκ:(fun x=>Qdi (M' x).h)=fun x=>Qdi (upd M a (⟨y,0⟩:Qh) x).h:=by funext x;rw [e4]
 refine ⟨l',M',e1,⟨e2.own, ?_,by rw [hκ];exact e5,hg⟩,fun b hb=>e3.mem_iff.1 hb,e2.nd⟩
 have e6:(l'.map fun b=>(M' b).h)=l'.map fun b=>(upd M a (⟨y,0⟩:Qh) b).h:=List.map_congr_left fun b _=>e4 b
 have e7:(l.map fun b=>(upd M a (⟨y,0⟩:Qh) b).h)=l.map fun b=>(M b).h:=List.map_congr_left fun b hb=>by rw [hne b hb]
 rw [e6]
 refine (e3.map _).trans ?_
 rw [List.map_append,e7]
 have e8:([a].map fun b=>(upd M a (⟨y,0⟩:Qh) b).h)=[y]:=by simp [upd]
 rw [e8]
 exact (h.perm.append_right [y]).trans ((List.perm_append_singleton y L).trans (Qks y L).symm)
theorem Wg8 (q:QL) (a1:Yl) {r:Int × QL} (H:Wdl q a1=some r):Xz Tryz.prog 71 [qR q] [.ptr 0 0 0 0,.d (Qk2 a1)] [qR r.2] (.i r.1):=by
 unfold Wdl at H
 obtain ⟨v1,h1,H⟩:=Option.bind_eq_some_iff.1 H
 have hb:a1.M.Pairs.length<=1000000/\q.l.length<=1000000:=by
  by_cases h:a1.M.Pairs.length<=1000000/\q.l.length<=1000000
  ·exact h
  rw [if_neg h] at H;cases H
 rw [if_pos hb] at H
 injection H with H
 refine Xj Tryz.func71 rfl (nt:=40) rfl (lb rfl) fun X hP h0 hX=>?_
 have hT:Xb X.P T:=hP▸tok
 have hf:X.P.funcs[71]? = some Tryz.f71:=hP▸Tryz.func71
 refine Wka (e:=Qh.e) (he:=Qh.nl) (ty:=178) (tq:=171) (te:=172) (I:=QI q.l) 0 rfl fun l M hq hn=>?_
 show AK X 71 _ _ ⟨40,[(0,.ptr 0 0 0 0),(1,.d (Qk2 a1))],[.box 171 [.own 1 1 0 l.length],Yv l,.obj (Zj Qh.e Qh.nl 178 l M)]⟩
 refine Qgr 1 (r:=Yv l) rfl rfl (st':=⟨40,[(0,.ptr 0 0 0 0),(1,.d (Qk2 a1))],[.box 171 [.own 3 1 0 l.length],.gone,.obj (Zj Qh.e Qh.nl 178 l M),Yv l]⟩) (by kernel_rfl) (by kernel_rfl) rfl ?_
 refine Xl hT 14 (K71 11000 5) ⟨40,[(0,.ptr 0 0 0 0),(3,.ptr 4 0 0 0),(8,.b false),(10,.d (Qb5 a1.M))],[.box 171 [.own 3 1 0 l.length],.gone,.obj (Zj Qh.e Qh.nl 178 l M),Yv l,.box 130 (Qfl a1)]⟩ ?_
 have Xy:∀ (Qni:Bool),r=(if Qni=true then (1,q) else Qvj q a1)->AK X 71 ((K71 1100 1)) (Yc X [qR r.2] (.i r.1)) ⟨40,[(0,.ptr 0 0 0 0),(3,.ptr 3 0 0 0),(5,.b Qni)],[.box 171 [.own 4 1 0 l.length],.gone,.obj (Zj Qh.e Qh.nl 178 l M),.box 130 (Qfl a1),Yv l]⟩:=by
  intro Qni H
  by_cases c3:Qni=true
  ·rw [if_pos c3] at H
   subst H
   rw [c3]
   refine Xl hT 5 (K71 110010 1) ⟨40,[(4,.i 1)],[.box 171 [.own 4 1 0 l.length],.gone,.obj (Zj Qh.e Qh.nl 178 l M),.box 130 (Qfl a1),Yv l]⟩ ?_
   refine Qrn (e:=Qh.e) (he:=Qh.nl) (ty:=178) (tq:=171) (te:=172) (QI q.l) (N:=4) (A:=2) (l:=l) (dom:=l) (M:=M) 0 rfl rfl rfl (fun _ h=>h) hn hq ?_
   exact Qjd hf hX (av:=.i 1) (by kernel_rfl) [0] (Qbu rfl) (by decide) (by rw [h0];rfl) (by kernel_rfl) (ac (.obj _) an) (.d (.v _))
  rw [if_neg c3] at H
  rw [Jo c3]
  refine Xl hT 10 (K71 1100110 7) ⟨40,[(0,.ptr 0 0 0 0),(3,.ptr 3 0 0 0),(21,.ptr 0 0 0 0),(24,.i a1.M.Client),(27,.i a1.M.Seq)],[.box 171 [.own 4 1 0 l.length],.gone,.obj (Zj Qh.e Qh.nl 178 l M),.box 130 (Qfl a1),Yv l]⟩ ?_
  obtain ⟨o,h4,ho⟩:=Wll hq a1.M.Client a1.M.Seq
  have Sq5:=Zi.Qy ⟨⟨l⟩⟩ a1.M.Client a1.M.Seq l M h4
  rcases ho with ⟨rfl,ho⟩ | ⟨i,hi,rfl,ho⟩
  ·refine Jj (Zk:=[.ptr 0 0 0 0,.i a1.M.Client,.i a1.M.Seq]) (dst:=some 28) (k':=(K71 1100110 8)) [0,3,28] [0,4,2] hP Qt8 (Sq5) (by kernel_rfl) (Qey rfl rfl rfl (by decide)) (.cons (.same (.ptr 0 0 0 0)) (.cons (Wj _) (.cons (Wj _) .nil))) (st':=⟨40,[(0,.ptr 0 0 0 0),(3,.ptr 3 0 0 0),(28,.d .np)],[.box 171 [.own 5 1 0 l.length],.gone,.obj (Zj Qh.e Qh.nl 178 l M),.box 130 (Qfl a1),.gone,Yv l]⟩) (by kernel_rfl) ?_
   refine Xl hT 6 (K71 11 1) ⟨40,[(0,.ptr 0 0 0 0),(3,.ptr 3 0 0 0)],[.box 171 [.own 5 1 0 l.length],.gone,.obj (Zj Qh.e Qh.nl 178 l M),.box 130 (Qfl a1),.gone,Yv l]⟩ ?_
   refine Xl hT 1 (K71 111 0) ⟨40,[(0,.ptr 0 0 0 0),(3,.ptr 3 0 0 0)],[.box 171 [.own 5 1 0 l.length],.gone,.obj (Zj Qh.e Qh.nl 178 l M),.box 130 (Qfl a1),.gone,Yv l]⟩ ?_
   refine Qdv (nt:=40) (hP▸mixed) 9 [7] [0,3] [(0,.ptr 0 0 0 0),(3,.ptr 3 0 0 0)] (sm [.ptr 0 0 0 0,.ptr 0 0 0 0,.ptr 0 0 0 0,.ifc 175 (.ptr 0 0 0 0),.d (Qk2 a1),.d (Qk2 a1),.d (.agg [.i a1.M.Client,.i a1.M.Seq,.i a1.M.Kind,Yi true a1.M.Pairs,.i a1.M.Over.Lo,.i a1.M.Over.Hi,.i a1.M.Old,.i a1.Time,.b a1.Qcq,.i 0]),.ptr 6 0 0 0,.ifc 172 (.ptr 6 0 0 0)]) [[.box 171 [.own 5 1 0 l.length],.gone,.obj (Zj Qh.e Qh.nl 178 l M),.box 130 (Qfl a1),.gone,Yv l],[.box 171 [.own 5 1 0 l.length],.gone,.obj (Zj Qh.e Qh.nl 178 l M),.box 130 (Qfl a1),.gone,Yv l,.box 178 [.i a1.M.Client,.i a1.M.Seq,.i a1.M.Kind,.d (Yi true a1.M.Pairs),.i a1.M.Over.Lo,.i a1.M.Over.Hi,.i a1.M.Old,.i a1.Time,.b a1.Qcq,.i 0]]] (by kernel_rfl) (by kernel_rfl) (by kernel_rfl) (by kernel_rfl) ⟨?_,(Qhg hT),?_⟩ ?_
   iterate 2 exact (Xa (Qgz (Xa (Qfc (Xa (Xa (Xa (Xa (Xa Qi6 hT) hT) hT) hT) hT) (fun R rest h=>Zl (Zk:=[.d (Qk2 a1)]) (dst:=some 35) hP Wbp (Qew.Qy a1 (Wlu hb.1)) (by kernel_rfl) (.cons (Wj _) .nil) (by kernel_rfl) h)) hT)) hT)
   refine Xl hT 0 (K71 1110 9) ⟨40,[(33,.ifc 175 (.ptr 0 0 0 0)),(38,.ifc 172 (.ptr 6 0 0 0))],[.box 171 [.own 5 1 0 l.length],.gone,.obj (Zj Qh.e Qh.nl 178 l M),.box 130 (Qfl a1),.gone,Yv l,.box 178 [.i a1.M.Client,.i a1.M.Seq,.i a1.M.Kind,.d (Yi true a1.M.Pairs),.i a1.M.Over.Lo,.i a1.M.Over.Hi,.i a1.M.Old,.i a1.Time,.b a1.Qcq,.i 0]]⟩ ?_
   refine Wd8 6 2 (⟨a1,0⟩:Qh) (by decide) (by kernel_rfl) (by kernel_rfl) fun na hna=>⟨⟨40,[(33,.ifc 175 (.ptr 0 0 0 0)),(38,.d (.ifc 172 (pA na 0)))],[.box 171 [.own 5 1 0 l.length],.gone,.obj (Zj Qh.e Qh.nl 178 (l ++ [na]) (upd M na (⟨a1,0⟩:Qh))),.box 130 (Qfl a1),.gone,Yv l,.gone]⟩,(by
    intro j av hj
    by_cases e1:j=33
    ·subst e1
     refine ⟨_,rfl,.inl ?_⟩
     simpa [List.lookup] using hj.symm
    by_cases e2:j=38
    ·subst e2
     refine ⟨_,rfl,.inr (.inr ⟨172,0,rfl, ?_⟩)⟩
     simpa [List.lookup] using hj.symm
    have:([(33,.ifc 175 (.ptr 0 0 0 0)),(38,.d (.ifc 172 (pA na 0)))]:List (Nat × AV)).lookup j=none:=by
     simp [List.lookup,beq_eq_false_iff_ne.2 e1,beq_eq_false_iff_ne.2 e2]
    rw [this] at hj
    cases hj),rfl,rfl, ?_⟩
   have hr:∃ hg,r=(0,⟨Qi5 a1 q.l,hg⟩):=by
    rw [H]
    unfold Qvj
    split
    ·rename_i x e;rw [ho] at e;cases e
    rename_i e;exact ⟨Qs8 q.good ho hb.1,by rw [dif_pos hb.1]⟩
   obtain ⟨hg,rfl⟩:=hr
   obtain ⟨l',M',e1,e2,e3,e4⟩:=Wlx hq hna hb.2 hg
   refine Jj (Zk:=[.ifc 175 (.ptr 0 0 0 0),.d (.ifc 172 (pA na 0))]) (dst:=some 39) (k':=(K71 1110 10)) [] [0,5,2] hP Wbo (Qe7.Qy ⟨⟨l⟩⟩ na (l ++ [na]) (upd M na (⟨a1,0⟩:Qh)) e1) (by kernel_rfl) (Qey rfl rfl rfl (by decide)) (.cons (.same (.ifc 175 (.ptr 0 0 0 0))) (.cons (Wj _) .nil)) (st':=⟨40,[],[.box 171 [.own 7 1 0 l'.length],.gone,.obj (Zj Qh.e Qh.nl 178 (l ++ [na]) M'),.box 130 (Qfl a1),.gone,.gone,.gone,Yv l']⟩) (by kernel_rfl) ?_
   refine Xl hT 5 (K71 1111 1) ⟨40,[(4,.i 0)],[.box 171 [.own 7 1 0 l'.length],.gone,.obj (Zj Qh.e Qh.nl 178 (l ++ [na]) M'),.box 130 (Qfl a1),.gone,.gone,.gone,Yv l']⟩ ?_
   refine Qrn (e:=Qh.e) (he:=Qh.nl) (ty:=178) (tq:=171) (te:=172) (QI (Qi5 a1 q.l)) (N:=7) (A:=2) (l:=l') (dom:=l ++ [na]) (M:=M') 0 rfl rfl rfl e3 e4 e2 ?_
   exact Qjd hf hX (av:=.i 0) (by kernel_rfl) [0] (Qbu rfl) (by decide) (by rw [h0];rfl) (by kernel_rfl) (ac (.obj _) an) (.d (.v _))
  have hr:r=(7,q):=by
   rw [H]
   unfold Qvj
   split
   ·rfl
   rename_i e;rw [ho] at e;cases e
  subst hr
  refine Jj (Zk:=[.ptr 0 0 0 0,.i a1.M.Client,.i a1.M.Seq]) (dst:=some 28) (k':=(K71 1100110 8)) [0,3,28] [0,4,2] hP Qt8 (Sq5) (by kernel_rfl) (Qey rfl rfl rfl (by decide)) (.cons (.same (.ptr 0 0 0 0)) (.cons (Wj _) (.cons (Wj _) .nil))) (st':=⟨40,[(0,.ptr 0 0 0 0),(3,.ptr 3 0 0 0),(28,.d (pA (l.getD i 0) 0))],[.box 171 [.own 5 1 0 l.length],.gone,.obj (Zj Qh.e Qh.nl 178 l M),.box 130 (Qfl a1),.gone,Yv l]⟩) (by kernel_rfl) ?_
  refine Xl hT 8 (K71 11001110 1) ⟨40,[(4,.i 7)],[.box 171 [.own 5 1 0 l.length],.gone,.obj (Zj Qh.e Qh.nl 178 l M),.box 130 (Qfl a1),.gone,Yv l]⟩ ?_
  refine Qrn (e:=Qh.e) (he:=Qh.nl) (ty:=178) (tq:=171) (te:=172) (QI q.l) (N:=5) (A:=2) (l:=l) (dom:=l) (M:=M) 0 rfl rfl rfl (fun _ h=>h) hn hq ?_
  exact Qjd hf hX (av:=.i 7) (by kernel_rfl) [0] (Qbu rfl) (by decide) (by rw [h0];rfl) (by kernel_rfl) (ac (.obj _) an) (.d (.v _))
 refine Jj (Zk:=[.d (Qb5 a1.M)]) (dst:=some 11) (k':=(K71 11000 6)) [0,3,8,11] [] hP Qid (Qbx.Qy a1.M h1) (by kernel_rfl) (Jy _) (.cons (Wj _) .nil) (st':=⟨40,[(0,.ptr 0 0 0 0),(3,.ptr 4 0 0 0),(8,.b false),(11,.b v1)],[.box 171 [.own 3 1 0 l.length],.gone,.obj (Zj Qh.e Qh.nl 178 l M),Yv l,.box 130 (Qfl a1)]⟩) (by kernel_rfl) ?_
 refine Xl hT 3 (K71 11000 9) ⟨40,[(0,.ptr 0 0 0 0),(3,.ptr 4 0 0 0),(14,.b (!v1))],[.box 171 [.own 3 1 0 l.length],.gone,.obj (Zj Qh.e Qh.nl 178 l M),Yv l,.box 130 (Qfl a1)]⟩ ?_
 by_cases c2:v1=true
 ·skip
  rw [c2]
  refine Xl hT 2 (K71 11000 11) ⟨40,[(0,.ptr 0 0 0 0),(3,.ptr 4 0 0 0),(14,.b false),(16,.i a1.Time)],[.box 171 [.own 3 1 0 l.length],.gone,.obj (Zj Qh.e Qh.nl 178 l M),Yv l,.box 130 (Qfl a1)]⟩ ?_
  refine Jj (Zk:=[.i a1.Time]) (dst:=some 17) (k':=(K71 11000 12)) [0,3,14,17] [] hP Wbn (Qee.Qy a1.Time) (by kernel_rfl) (Jy _) (.cons (Wj _) .nil) (st':=⟨40,[(0,.ptr 0 0 0 0),(3,.ptr 4 0 0 0),(14,.b false),(17,.b (Qee a1.Time))],[.box 171 [.own 3 1 0 l.length],.gone,.obj (Zj Qh.e Qh.nl 178 l M),Yv l,.box 130 (Qfl a1)]⟩) (by kernel_rfl) ?_
  refine Xl hT 4 (K71 1100 1) ⟨40,[(0,.ptr 0 0 0 0),(3,.ptr 4 0 0 0),(5,.b (!(Qee a1.Time)))],[.box 171 [.own 3 1 0 l.length],.gone,.obj (Zj Qh.e Qh.nl 178 l M),Yv l,.box 130 (Qfl a1)]⟩ ?_
  refine Qg4 [0,1,2,4,3] ⟨40,[(0,.ptr 0 0 0 0),(3,.ptr 3 0 0 0),(5,.b (!(Qee a1.Time)))],[.box 171 [.own 4 1 0 l.length],.gone,.obj (Zj Qh.e Qh.nl 178 l M),.box 130 (Qfl a1),Yv l]⟩ h0 ?_
  exact Xy (!(Qee a1.Time)) (by rw [<- H,Wjj,c2];cases Qnh a1.Time<;>simp)
 skip
 rw [Jo c2]
 refine Xl hT 7 (K71 1100 1) ⟨40,[(0,.ptr 0 0 0 0),(3,.ptr 4 0 0 0),(5,.b true)],[.box 171 [.own 3 1 0 l.length],.gone,.obj (Zj Qh.e Qh.nl 178 l M),Yv l,.box 130 (Qfl a1)]⟩ ?_
 refine Qg4 [0,1,2,4,3] ⟨40,[(0,.ptr 0 0 0 0),(3,.ptr 3 0 0 0),(5,.b true)],[.box 171 [.own 4 1 0 l.length],.gone,.obj (Zj Qh.e Qh.nl 178 l M),.box 130 (Qfl a1),Yv l]⟩ h0 ?_
 exact Xy true (by rw [<- H,if_neg (fun h=>c2 h.1)];rfl)
noncomputable def Qdd (a b:Qc):Int:=Qya ⟨a.Time,a.M.Client,a.M.Seq⟩ ⟨b.Time,b.M.Client,b.M.Seq⟩
theorem Qtj (a b:Qc):Qiu a b=some (Qdd a b):=by
 unfold Qiu bnd
 simp only [Qjt,Option.bind_some]
 rfl
theorem Qqc (a b:Qc):Xz Tryz.prog 26 [] [.d (Qff a),.d (Qff b)] [] (.i (Qdd a b)):=Qiu.Qy a b (Qtj a b)
theorem Qrt (x y:Qc):ltOf Qdd x y=true↔ltS ⟨x.Time,x.M.Client,x.M.Seq⟩ ⟨y.Time,y.M.Client,y.M.Seq⟩:=by
 unfold ltOf Qdd
 simp only [decide_eq_true_eq]
 exact Qoq _ _
theorem Qhb:SWO (ltOf Qdd) where
 irrefl x:=by
  rw [Bool.eq_false_iff,ne_eq,Qrt]
  unfold ltS
  omega
 trans x y z h1 h2:=by
  rw [Qrt] at *
  unfold ltS at *
  simp only at *
  omega
 ntrans x y z h1 h2:=by
  rw [Bool.eq_false_iff,ne_eq,Qrt] at *
  unfold ltS at *
  simp only at *
  omega
theorem Wl9 {g:FuncId} (eg:Sy.Enters Tryz.prog g) (cf:Qc->Qc->Int) (hO:SWO (ltOf cf))
  (hs:∀ x y,Xz Tryz.prog g [] [.d (.agg (Qc.e x)),.d (.agg (Qc.e y))] [] (.d (.v (.int .i64 (cf x y))))) (xs:List Qc) (hb:xs.length * 88<=140737488355328):
  Xz Tryz.prog 25 [Qb6 xs] [.own 0 9 0 xs.length,.d (.fn g [])] [.flat false 9 50 xs.length (vec Qc.e Qc.z (Qfm Qc.z cf xs))] (.Qn []):=
 Wdv Tryz.Wjh Qc.z 9 (fun w=>by kernel_rfl) (fun w=>by kernel_rfl) Qc.e Qc.nl cf hO g (fun args w=>eg args w) hs (by omega)
end Go.SyP
