/- What audit says of one event, with the map of what was. Printed by gen24.py. -/
import Derived.Test.YtdndobkfnmommaaGreatG24zA
import Derived.Test.YtdndobkfnmommaaGreatG24zCp1
import Derived.Test.YtdndobkfnmommaaGreatSyArr
set_option linter.unusedVariables false
set_option linter.unusedSimpArgs false
namespace Go.SyP
open Go Go.Sy Go.Proofs
structure Wh8 where
 L:List Rec
 M:Nat->Value × Int
 S:List (Nat × Nat × List Ql)
abbrev Qci.p0 (t1:Bool) (a1:List Qd):List (Nat × AV):=[(1,.d (Xq t1 a1)),(5,.ptr 3 0 0 0)]
theorem Qci.Wv {t1:Bool} (q:Nat) (L:List Rec) (M:Nat->Value × Int) (S:List (Nat × Nat × List Ql)) (P:PT) (hI:Qf7 L M S P) (a1:List Qd) (a2:Qy) {r:Int × PT} (H:Qci a1 a2 P=some r):
  Qpy Tryz.prog 47 [rM q L,rA L M,rS S] [.d (.v (.map (some q))),.d (Xq t1 a1),.d (Qrj a2)] (fun g:Wh8=>Qf7 g.L g.M g.S r.2) (fun g=>[rM q g.L,rA g.L g.M,rS g.S]) (fun _=>.i r.1):=by
 refine Qxd Tryz.func47 rfl (nt:=67) rfl (lb rfl) fun X hP h0 hX=>?_
 have hT:Xo X.P T:=hP▸tok
 have hf:X.P.funcs[47]? = some Tryz.f47:=hP▸Tryz.func47
 refine Qh hT 9 (K47 1100 1) ⟨67,[(0,.d (.v (.map (some q)))),(1,.d (Xq t1 a1)),(5,.ptr 3 0 0 0),(9,.d (Qrj a2))],[rM q L,rA L M,rS S,.box 74 (Qa4 a2)]⟩ ?_
 obtain ⟨v1,h1,H⟩:=ibC H
 refine Ws (Yk:=[.d (Qrj a2)]) (dst:=some 10) (k':=(K47 1100 2)) [0,1,5,10] [] hP Wck (Ze.Wv a2 h1) (by kernel_rfl) (Qz _) (.cons (Qp _) .nil) (st':=⟨67,[(0,.d (.v (.map (some q)))),(1,.d (Xq t1 a1)),(5,.ptr 3 0 0 0),(10,.b v1)],[rM q L,rA L M,rS S,.box 74 (Qa4 a2)]⟩) (by kernel_rfl) ?_
 refine Qh hT 2 (K47 110 1) ⟨67,[(0,.d (.v (.map (some q)))),(1,.d (Xq t1 a1)),(5,.ptr 3 0 0 0),(11,.b (!v1))],[rM q L,rA L M,rS S,.box 74 (Qa4 a2)]⟩ ?_
 by_cases c2:v1=true
 ·replace H:=iT c2 H
  rw [c2]
  refine Qh hT 2 (K47 11 1) ⟨67,[(0,.d (.v (.map (some q)))),(1,.d (Xq t1 a1)),(5,.ptr 3 0 0 0)],[rM q L,rA L M,rS S,.box 74 (Qa4 a2)]⟩ ?_
  refine Qh hT 5 (K47 1110 3) ⟨67,(Qci.p0 t1 a1++[(12,.d (.v (.map (some q)))),(14,.i a2.Client)]),[rM q L,rA L M,rS S,.box 74 (Qa4 a2)]⟩ ?_
  refine Qv0 (Yk:=[.d (.v (.map (some q))),.i a2.Client]) (dst:=some 15) (k':=(K47 1110 4)) [0,1] hP Wcl (Whn q L M S P hI (a2.Client)) (by kernel_rfl) (Qur rfl rfl rfl rfl (by decide)) (.cons (Qp _) (.cons (Qp _) .nil)) (st':=fun o=>⟨67,[(15,.d (pA o.r.a 0)),(1,.d (Xq t1 a1)),(5,.ptr 3 0 0 0),(12,.d (.v (.map (some q)))),(14,.i a2.Client)],[rM q o.L,rA o.L o.M,rS S,.box 74 (Qa4 a2)]⟩) (fun o=>by kernel_rfl) fun o ho=>?_
  obtain ⟨hI1,hor,hoc⟩:=ho
  have hob:=hI1.obj o.r hor
  have hin:=hI1.mem hor
  rw [hoc] at hob hin
  obtain ⟨hM1,hz⟩:=hob
  have Qdc:=Wg1 hor
  refine Qh hT 9 (K47 11110 1) ⟨67,(Qci.p0 t1 a1++[(7,.d (pA o.r.a 0)),(18,.b (a2.Kind == 1))]),[rM q o.L,rA o.L o.M,rS S,.box 74 (Qa4 a2)]⟩ ?_
  by_cases c3:a2.Kind=1
  ·replace H:=iT c3 H
   rw [eqT c3]
   refine Qh hT 3 (K47 11110100 0) ⟨67,[(5,.ptr 3 0 0 0),(7,.d (pA o.r.a 0))],[rM q o.L,rA o.L o.M,rS S,.box 74 (Qa4 a2)]⟩ ?_
   refine Qax (hP▸mixed) 10 [5,7] (sm [.ptr 3 0 0 2,.ptr 3 0 0 3,.i a2.M.Seq,.d (pA o.r.a 0),.d (pA o.r.a 0),.d (pA o.r.a 0),.d (.v (slv o.r.so (P a2.Client).1.length)),.i ((P a2.Client).1.length:Int),.i (IntKind.wrap .i64 (((P a2.Client).1.length:Int)+1)),.b (a2.M.Seq != (IntKind.wrap .i64 (((P a2.Client).1.length:Int)+1)))]) (Qg (Qg (Jn (Jn (Qg (Qg (Qg (Qg (Qg (Qg op0 hT) hT) hT) hT) hT) hT) (fun R rest h=>Qtb hT (e:=eO) (he:=nlO) (ty:=171) (dom:=adr o.L) (m:=o.M) 1 (a:=o.r.a) (off:=0) (s:=1) (agg:=false) (dst:=some 25) [.v (slv o.r.so (P a2.Client).1.length)] (by kernel_rfl) (by kernel_rfl) Qdc (by rw [hM1];rfl) rfl (fun _=>rfl) (by kernel_rfl) h)) (fun R rest h=>Wg6 hT (so:=o.r.so) (n:=(P a2.Client).1.length) (dst:=some 26) (by kernel_rfl) (fun e=>by rw [hz e];rfl) (by kernel_rfl) h)) hT) hT) ?_
   refine Qh hT 1 (K47 11110100 1) ⟨67,[(5,.ptr 3 0 0 0),(7,.d (pA o.r.a 0)),(28,.b (a2.M.Seq != (IntKind.wrap .i64 (((P a2.Client).1.length:Int)+1))))],[rM q o.L,rA o.L o.M,rS S,.box 74 (Qa4 a2)]⟩ ?_
   by_cases c4:a2.M.Seq=(IntKind.wrap .i64 (((P a2.Client).1.length:Int)+1))
   ·replace H:=iT c4 H
    rw [neF c4]
    refine Qh hT 2 (K47 1111010 1) ⟨67,[(5,.ptr 3 0 0 0),(7,.d (pA o.r.a 0))],[rM q o.L,rA o.L o.M,rS S,.box 74 (Qa4 a2)]⟩ ?_
    refine Qh hT 11 (K47 1111010110 2) ⟨67,[(7,.d (pA o.r.a 0)),(8,.ptr 4 0 0 0),(32,.d (Xw true a2.M.Pairs))],[rM q o.L,rA o.L o.M,rS S,.box 74 (Qa4 a2),.box 39 (Ya a2.M)]⟩ ?_
    obtain ⟨h5,H⟩:=iC H
    refine Ws (Yk:=[.d (Xw true a2.M.Pairs)]) (dst:=some 33) (k':=(K47 1111010110 3)) [7,8,33] [] hP Qmb (Qp2 (tg:=true) a2.M.Pairs h5) (by kernel_rfl) (Qz _) (.cons (Qp _) .nil) (st':=⟨67,[(7,.d (pA o.r.a 0)),(8,.ptr 4 0 0 0),(33,.own 5 2 0 a2.M.Pairs.length)],[rM q o.L,rA o.L o.M,rS S,.box 74 (Qa4 a2),.box 39 (Ya a2.M),Xj a2.M.Pairs]⟩) (by kernel_rfl) ?_
    refine Qh hT 4 (K47 1111010111 0) ⟨67,[(7,.d (pA o.r.a 0)),(8,.ptr 4 0 0 0)],[rM q o.L,rA o.L o.M,rS S,.box 74 (Qa4 a2),.box 39 [.i a2.M.Client,.i a2.M.Seq,.i a2.M.Kind,.own 5 2 0 a2.M.Pairs.length,.i a2.M.Over.Lo,.i a2.M.Over.Hi,.i a2.M.Old],Xj a2.M.Pairs]⟩ ?_
    obtain ⟨L1,L2,hL,hS2,hx⟩:=hI1.split hor
    rw [hoc] at hS2
    refine Wex (e:=Ql.e) (z:=Ql.z) (he:=Ql.nl) (kk:=7) (ty:=39) 2 (S:=S) (S':=sb o.r.so (P a2.Client).1 ++ Qdi P (L1 ++ L2)) (by kernel_rfl) hS2 ?_
    refine Qm0 [7,8] (st':=⟨67,[(7,.d (pA o.r.a 0)),(8,.ptr 4 0 0 0)],[rM q o.L,rA o.L o.M,rS (sb o.r.so (P a2.Client).1 ++ Qdi P (L1 ++ L2)),.box 74 (Qa4 a2),.box 39 [.i a2.M.Client,.i a2.M.Seq,.i a2.M.Kind,.own 5 2 0 a2.M.Pairs.length,.i a2.M.Over.Lo,.i a2.M.Over.Hi,.i a2.M.Old],Xj a2.M.Pairs]⟩) (by kernel_rfl) ?_
    refine Qdp 5 (kk:=2) (n:=a2.M.Pairs.length) (ty:=81) (g:=vec Qa.e Qa.z a2.M.Pairs) (by kernel_rfl) (st':=⟨67,[(7,.d (pA o.r.a 0)),(8,.ptr 4 0 0 0)],[rM q o.L,rA o.L o.M,rS (sb o.r.so (P a2.Client).1 ++ Qdi P (L1 ++ L2)),.box 74 (Qa4 a2),.box 39 [.i a2.M.Client,.i a2.M.Seq,.i a2.M.Kind,.own 5 2 0 a2.M.Pairs.length,.i a2.M.Over.Lo,.i a2.M.Over.Hi,.i a2.M.Old],Qer a2.M.Pairs]⟩) (by kernel_rfl) ?_
    refine Qsb 4 (ty:=39) (xs:=[.i a2.M.Client,.i a2.M.Seq,.i a2.M.Kind,.own 5 2 0 a2.M.Pairs.length,.i a2.M.Over.Lo,.i a2.M.Over.Hi,.i a2.M.Old]) (ys:=[.i a2.M.Client,.i a2.M.Seq,.i a2.M.Kind,Xw true a2.M.Pairs,.i a2.M.Over.Lo,.i a2.M.Over.Hi,.i a2.M.Old]) (by kernel_rfl) (.cons (.d _) (.cons (.d _) (.cons (.d _) (.cons (.own (ty:=81) (k:=2) (by kernel_rfl)) (.cons (.d _) (.cons (.d _) (.cons (.d _) .nil))))))) (st':=⟨67,[(7,.d (pA o.r.a 0)),(8,.ptr 4 0 0 0)],[rM q o.L,rA o.L o.M,rS (sb o.r.so (P a2.Client).1 ++ Qdi P (L1 ++ L2)),.box 74 (Qa4 a2),.box 39 (Ya a2.M),Qer a2.M.Pairs]⟩) (by kernel_rfl) ?_
    obtain ⟨h6,H⟩:=iC H
    refine Qxr (nt:=67) (hP▸mixed) 8 4 6 [7,8] [(7,.d (pA o.r.a 0)),(8,.ptr 4 0 0 0)] [4,6,7] [6,4,7] (sm [.d (pA o.r.a 0),.d (pA o.r.a 0),.d (pA o.r.a 0),.d (pA o.r.a 0),.own 6 7 0 ((P a2.Client).1.length),.d (Qas a2.M),.own 7 7 0 1,.own 8 7 0 ((((P a2.Client).1) ++ [a2.M]).length)]) [some (.d (pA o.r.a 0)),some (.d (pA o.r.a 0)),some (.d (pA o.r.a 0)),some (.d (pA o.r.a 0)),some (.own 7 7 0 ((P a2.Client).1.length)),some (.d (Qas a2.M)),some (.own 6 7 0 1),some (.own 8 7 0 ((((P a2.Client).1) ++ [a2.M]).length))] [[rM q o.L,rA o.L o.M,rS (sb o.r.so (P a2.Client).1 ++ Qdi P (L1 ++ L2)),.box 74 (Qa4 a2),.box 39 (Ya a2.M),Qer a2.M.Pairs],[rM q o.L,rA o.L o.M,rS (Qdi P (L1 ++ L2)),.box 74 (Qa4 a2),.box 39 (Ya a2.M),Qer a2.M.Pairs,Qd7 ((P a2.Client).1)],[rM q o.L,rA o.L o.M,rS (Qdi P (L1 ++ L2)),.box 74 (Qa4 a2),.box 39 (Ya a2.M),Qer a2.M.Pairs,Qd7 ((P a2.Client).1),.flat false 7 39 1 (fun j=>[Ql.e a2.M].getD j [])],[rM q o.L,rA o.L o.M,rS (Qdi P (L1 ++ L2)),.box 74 (Qa4 a2),.box 39 (Ya a2.M),Qer a2.M.Pairs,.gone,.flat false 7 39 1 (fun j=>[Ql.e a2.M].getD j []),Qd7 (((P a2.Client).1) ++ [a2.M])]] [[rM q o.L,rA o.L o.M,rS (sb o.r.so (P a2.Client).1 ++ Qdi P (L1 ++ L2)),.box 74 (Qa4 a2),.box 39 (Ya a2.M),Qer a2.M.Pairs],[rM q o.L,rA o.L o.M,rS (sb o.r.so (P a2.Client).1 ++ Qdi P (L1 ++ L2)),.box 74 (Qa4 a2),.box 39 (Ya a2.M),Qer a2.M.Pairs,.flat false 7 39 1 (fun j=>[Ql.e a2.M].getD j [])],[rM q o.L,rA o.L o.M,rS (Qdi P (L1 ++ L2)),.box 74 (Qa4 a2),.box 39 (Ya a2.M),Qer a2.M.Pairs,.flat false 7 39 1 (fun j=>[Ql.e a2.M].getD j []),Qd7 ((P a2.Client).1)],[rM q o.L,rA o.L o.M,rS (Qdi P (L1 ++ L2)),.box 74 (Qa4 a2),.box 39 (Ya a2.M),Qer a2.M.Pairs,.flat false 7 39 1 (fun j=>[Ql.e a2.M].getD j []),.gone,Qd7 (((P a2.Client).1) ++ [a2.M])]] (by kernel_rfl) (by kernel_rfl) rfl (by kernel_rfl) (by decide) (by decide) (by decide) (by kernel_rfl) (by kernel_rfl) ⟨?_,(fun R rest h=>Qsa (e:=Ql.e) (z:=Ql.z) (he:=Ql.nl) (kk:=7) (ty:=39) (tq:=171) hT (M:=o.M) (dom:=adr o.L) 1 2 (a:=o.r.a) (so:=o.r.so) (l:=(P a2.Client).1) (mk:=(P a2.Client).2) (S:=Qdi P (L1 ++ L2)) (dst:=39) (by kernel_rfl) (by kernel_rfl) Qdc hM1 hz (by kernel_rfl) (by kernel_rfl) h),⟨?_,(Qg7 hT),⟨?_,(fun R rest h=>Qq6 (id:=6) (kk:=7) (id2:=7) (by':=72) (t:=169) (e:=39) (e2:=39) (z:=[.int .i64 0,.int .i64 0,.int .i64 0,.slice none 0 0,.int .i64 0,.int .i64 0,.int .i64 0]) (dst:=some 42) (fz:=false) hT Ql.e Ql.z ((P a2.Client).1) a2.M (by kernel_rfl) (by kernel_rfl) (by kernel_rfl) (by kernel_rfl) (by kernel_rfl) (by kernel_rfl) (by kernel_rfl) h6 (by omega) (by kernel_rfl) h),?_⟩⟩⟩ ⟨?_,(Qg7 hT),⟨?_,(fun R rest h=>Qsa (e:=Ql.e) (z:=Ql.z) (he:=Ql.nl) (kk:=7) (ty:=39) (tq:=171) hT (M:=o.M) (dom:=adr o.L) 1 2 (a:=o.r.a) (so:=o.r.so) (l:=(P a2.Client).1) (mk:=(P a2.Client).2) (S:=Qdi P (L1 ++ L2)) (dst:=39) (by kernel_rfl) (by kernel_rfl) Qdc hM1 hz (by kernel_rfl) (by kernel_rfl) h),⟨?_,(fun R rest h=>Qq6 (id:=7) (kk:=7) (id2:=6) (by':=72) (t:=169) (e:=39) (e2:=39) (z:=[.int .i64 0,.int .i64 0,.int .i64 0,.slice none 0 0,.int .i64 0,.int .i64 0,.int .i64 0]) (dst:=some 42) (fz:=false) hT Ql.e Ql.z ((P a2.Client).1) a2.M (by kernel_rfl) (by kernel_rfl) (by kernel_rfl) (by kernel_rfl) (by kernel_rfl) (by kernel_rfl) (by kernel_rfl) h6 (by omega) (by kernel_rfl) h),?_⟩⟩⟩ (fun h=>Qhm [0,1,2,3,4,5,7,6,8] _ h0 h) ?_
    iterate 8 exact (Qit (Qit (Qat (Qit (Qat (Qat (Qat (Qat Qlw hT) hT) hT) hT)) hT)))
    refine Qh hT 2 (K47 11110101110 10) ⟨67,[(42,.own 8 7 0 ((((P a2.Client).1) ++ [a2.M]).length)),(44,.d (pA o.r.a 0))],[rM q o.L,rA o.L o.M,rS (Qdi P (L1 ++ L2)),.box 74 (Qa4 a2),.box 39 (Ya a2.M),Qer a2.M.Pairs,.gone,.flat false 7 39 1 (fun j=>[Ql.e a2.M].getD j []),Qd7 (((P a2.Client).1) ++ [a2.M])]⟩ ?_
    refine Wg5 (e:=Ql.e) (z:=Ql.z) (he:=Ql.nl) (kk:=7) (ty:=39) 42 2 8 (l:=((P a2.Client).1) ++ [a2.M]) (S:=Qdi P (L1 ++ L2)) (by kernel_rfl) (by kernel_rfl) (by kernel_rfl) fun so hso=>?_
    refine Qm0 [42,44] (st':=⟨67,[(42,.d (.v (slv so (((P a2.Client).1) ++ [a2.M]).length))),(44,.d (pA o.r.a 0))],[rM q o.L,rA o.L o.M,rS (Qdi P (L1 ++ L2) ++ sb so (((P a2.Client).1) ++ [a2.M])),.box 74 (Qa4 a2),.box 39 (Ya a2.M),Qer a2.M.Pairs,.gone,.flat false 7 39 1 (fun j=>[Ql.e a2.M].getD j []),.gone]⟩) (by kernel_rfl) ?_
    refine Wbn hT [] (e:=eO) (he:=nlO) (ty:=171) (dom:=adr o.L) (m:=o.M) 1 (a:=o.r.a) (off:=0) (s:=1) (ds:=[.v (slv so (((P a2.Client).1) ++ [a2.M]).length)]) (k':=(K47 11110101110 11)) (slv so (((P a2.Client).1) ++ [a2.M]).length,(P a2.Client).2) (by kernel_rfl) (by kernel_rfl) Qdc (lb rfl) (by rw [hM1];rfl) (st':=⟨67,[],[rM q o.L,.obj (arO eO nlO 171 (adr o.L) (upd o.M o.r.a (slv so (((P a2.Client).1) ++ [a2.M]).length,(P a2.Client).2))),rS (Qdi P (L1 ++ L2) ++ sb so (((P a2.Client).1) ++ [a2.M])),.box 74 (Qa4 a2),.box 39 (Ya a2.M),Qer a2.M.Pairs,.gone,.flat false 7 39 1 (fun j=>[Ql.e a2.M].getD j []),.gone]⟩) (by kernel_rfl) ?_
    refine Qh hT 5 (K47 11110101111 1) ⟨67,[(6,.i 0)],[rM q o.L,.obj (arO eO nlO 171 (adr o.L) (upd o.M o.r.a (slv so (((P a2.Client).1) ++ [a2.M]).length,(P a2.Client).2))),rS (Qdi P (L1 ++ L2) ++ sb so (((P a2.Client).1) ++ [a2.M])),.box 74 (Qa4 a2),.box 39 (Ya a2.M),Qer a2.M.Pairs,.gone,.flat false 7 39 1 (fun j=>[Ql.e a2.M].getD j []),.gone]⟩ ?_
    obtain rfl:=Yg H
    have q1:=hI1.put hL hx so (((P a2.Client).1) ++ [a2.M]) ((P a2.Client).2) (fun e=>absurd (hso e) (by simp))
    have e1:=Whm (L1:=L1) (L2:=L2) (r:=o.r) so
    have e2:=Wg2 (L1:=L1) (L2:=L2) (r:=o.r) so
    rw [hoc] at q1 e1 e2
    rw [<- hL] at e1 e2
    refine Qe6 ⟨L1 ++ ⟨a2.Client,o.r.a,so⟩ :: L2,upd o.M o.r.a (slv so (((P a2.Client).1) ++ [a2.M]).length,(P a2.Client).2),Qdi P (L1 ++ L2) ++ sb so (((P a2.Client).1) ++ [a2.M])⟩ q1 ?_
    show AK X 47 _ (Yt X [.obj (mpO q (mpK (L1 ++ ⟨a2.Client,o.r.a,so⟩ :: L2))),.obj (arO eO nlO 171 (adr (L1 ++ ⟨a2.Client,o.r.a,so⟩ :: L2)) (upd o.M o.r.a (slv so (((P a2.Client).1) ++ [a2.M]).length,(P a2.Client).2))),rS (Qdi P (L1 ++ L2) ++ sb so (((P a2.Client).1) ++ [a2.M]))] (.i 0)) _
    rw [e1,e2]
    exact Qee hf hX (av:=.i 0) (by kernel_rfl) [0,1,2] (Jh (by kernel_rfl)) (by decide) (by rw [h0];rfl) (by kernel_rfl) (ac (.obj _) (ac (.obj _) (ac (.obj _) an))) (.d (.v _))
   replace H:=iF c4 H
   rw [neT c4]
   refine Qh hT 5 (K47 1111010010 1) ⟨67,[(6,.i 2)],[rM q o.L,rA o.L o.M,rS S,.box 74 (Qa4 a2)]⟩ ?_
   obtain rfl:=Yg H
   refine Qe6 ⟨o.L,o.M,S⟩ hI1 ?_
   exact Qee hf hX (av:=.i 2) (by kernel_rfl) [0,1,2] (Jh (by kernel_rfl)) (by decide) (by rw [h0];rfl) (by kernel_rfl) (ac (.obj _) (ac (.obj _) (ac (.obj _) an))) (.d (.v _))
  replace H:=iF c3 H
  rw [eqF c3]
  refine Qh hT 2 (K47 1111 1) ⟨67,(Qci.p0 t1 a1++[(7,.d (pA o.r.a 0))]),[rM q o.L,rA o.L o.M,rS S,.box 74 (Qa4 a2)]⟩ ?_
  refine Qh hT 2 (K47 111110 0) ⟨67,(Qci.p0 t1 a1++[(7,.d (pA o.r.a 0))]),[rM q o.L,rA o.L o.M,rS S,.box 74 (Qa4 a2)]⟩ ?_
  refine Qax (hP▸mixed) 7 [1,5,7] (sm [.ptr 3 0 0 12,.i a2.Mark,.d (pA o.r.a 0),.d (pA o.r.a 0),.d (pA o.r.a 1),.i ((P a2.Client).2),.b (decide (a2.Mark < ((P a2.Client).2)))]) (Qg (Jn (Qg (Qg (Qg (Qg (Qg op0 hT) hT) hT) hT) hT) (fun R rest h=>Qtb hT (e:=eO) (he:=nlO) (ty:=171) (dom:=adr o.L) (m:=o.M) 1 (a:=o.r.a) (off:=1) (s:=1) (agg:=false) (dst:=some 50) [.i (P a2.Client).2] (by kernel_rfl) (by kernel_rfl) Qdc (by rw [hM1];rfl) rfl (fun _=>rfl) (by kernel_rfl) h)) hT) ?_
  refine Qh hT 1 (K47 111110 1) ⟨67,(Qci.p0 t1 a1++[(7,.d (pA o.r.a 0)),(51,.b (decide (a2.Mark < ((P a2.Client).2))))]),[rM q o.L,rA o.L o.M,rS S,.box 74 (Qa4 a2)]⟩ ?_
  by_cases c7:a2.Mark < ((P a2.Client).2)
  ·replace H:=iT c7 H
   rw [decide_eq_true c7]
   refine Qh hT 5 (K47 11111010 1) ⟨67,[(6,.i 3)],[rM q o.L,rA o.L o.M,rS S,.box 74 (Qa4 a2)]⟩ ?_
   obtain rfl:=Yg H
   refine Qe6 ⟨o.L,o.M,S⟩ hI1 ?_
   exact Qee hf hX (av:=.i 3) (by kernel_rfl) [0,1,2] (Jh (by kernel_rfl)) (by decide) (by rw [h0];rfl) (by kernel_rfl) (ac (.obj _) (ac (.obj _) (ac (.obj _) an))) (.d (.v _))
  replace H:=iF c7 H
  rw [decide_eq_false c7]
  refine Qh hT 2 (K47 11111 1) ⟨67,(Qci.p0 t1 a1++[(7,.d (pA o.r.a 0))]),[rM q o.L,rA o.L o.M,rS S,.box 74 (Qa4 a2)]⟩ ?_
  refine Qh hT 7 (K47 1111110 5) ⟨67,(Qci.p0 t1 a1++[(7,.d (pA o.r.a 0)),(54,.i a2.Mark),(56,.d (pA o.r.a 1))]),[rM q o.L,rA o.L o.M,rS S,.box 74 (Qa4 a2)]⟩ ?_
  refine Wbn hT [1,5,7] (e:=eO) (he:=nlO) (ty:=171) (dom:=adr o.L) (m:=o.M) 1 (a:=o.r.a) (off:=1) (s:=1) (ds:=[.i a2.Mark]) (k':=(K47 1111110 6)) (slv o.r.so (P a2.Client).1.length,a2.Mark) (by kernel_rfl) (by kernel_rfl) Qdc (lb rfl) (by rw [hM1];rfl) (st':=⟨67,(Qci.p0 t1 a1++[(7,.d (pA o.r.a 0))]),[rM q o.L,.obj (arO eO nlO 171 (adr o.L) (upd o.M o.r.a (slv o.r.so (P a2.Client).1.length,a2.Mark))),rS S,.box 74 (Qa4 a2)]⟩) (by kernel_rfl) ?_
  have hM2:(upd o.M o.r.a (slv o.r.so (P a2.Client).1.length,a2.Mark)) o.r.a=(slv o.r.so (P a2.Client).1.length,a2.Mark):=by simp [upd]
  refine Qh hT 3 (K47 11111110 0) ⟨67,(Qci.p0 t1 a1++[(7,.d (pA o.r.a 0))]),[rM q o.L,.obj (arO eO nlO 171 (adr o.L) (upd o.M o.r.a (slv o.r.so (P a2.Client).1.length,a2.Mark))),rS S,.box 74 (Qa4 a2)]⟩ ?_
  obtain ⟨v2,h8,H⟩:=ibC H
  have Yn:(Qci.j1 a2 P)=some r->AK X 47 ((K47 1111111 1)) (Qy7 X (fun g:Wh8=>Qf7 g.L g.M g.S r.2) (fun g=>[rM q g.L,rA g.L g.M,rS g.S]) (fun _=>.i r.1)) ⟨67,[],[rM q o.L,.obj (arO eO nlO 171 (adr o.L) (upd o.M o.r.a (slv o.r.so (P a2.Client).1.length,a2.Mark))),rS S]⟩:=by
   intro H
   refine Qh hT 4 (K47 11111111 1) ⟨67,[(6,.i 0)],[rM q o.L,.obj (arO eO nlO 171 (adr o.L) (upd o.M o.r.a (slv o.r.so (P a2.Client).1.length,a2.Mark))),rS S]⟩ ?_
   obtain rfl:=Yg H
   refine Qe6 ⟨o.L,upd o.M o.r.a (slv o.r.so (P a2.Client).1.length,a2.Mark),S⟩ (by have q:=hI1.mark hor (a2.Mark);rw [hoc] at q;exact q) ?_
   exact Qee hf hX (av:=.i 0) (by kernel_rfl) [0,1,2] (Jh (by kernel_rfl)) (by decide) (by rw [h0];rfl) (by kernel_rfl) (ac (.obj _) (ac (.obj _) (ac (.obj _) an))) (.d (.v _))
  refine Qax (hP▸mixed) 10 [1,5,7] (sm [.d (Xq t1 a1),.d (pA o.r.a 0),.ptr 3 0 0 9,.i a2.Key,.ptr 3 0 0 12,.i a2.Mark,.d (Qht v2),.ptr 3 0 0 10,.d (Qht a2.Cell),.b (!((v2.Val == a2.Cell.Val) && (v2.Some == a2.Cell.Some)))]) (Qg (Qg (Qg (Jn (Qg (Qg (Qg (Qg (Qg (Qg op0 hT) hT) hT) hT) hT) hT) (fun R rest h=>Qt1 (Yk:=[.d (Xq t1 a1),.d (pA o.r.a 0),.i a2.Key,.i a2.Mark]) (dst:=some 63) [] hP Wcm (Qc4.Wv (t0:=t1) a1 (⟨(P a2.Client).1,a2.Mark⟩:Qft) a2.Key a2.Mark h8) (by kernel_rfl) (Qz _) (fun C' vs hR Qgu hv=>Wdm (e:=Ql.e) (z:=Ql.z) (he:=Ql.nl) (kk:=7) (ty:=39) (tq:=171) hR (Qz _) 1 2 (by rw [Qgu];rfl) (by simp) (by rw [Qgu];rfl) (by simp) Qdc hM2 hz hin hv) (by kernel_rfl) h)) hT) hT) hT) ?_
  refine Qh hT 1 (K47 11111110 1) ⟨67,[(66,.b (!((v2.Val == a2.Cell.Val) && (v2.Some == a2.Cell.Some))))],[rM q o.L,.obj (arO eO nlO 171 (adr o.L) (upd o.M o.r.a (slv o.r.so (P a2.Client).1.length,a2.Mark))),rS S,.box 74 (Qa4 a2)]⟩ ?_
  by_cases c9:v2.Val=a2.Cell.Val
  ·replace H:=iT c9 H
   rw [eqT c9]
   by_cases c10:v2.Some=true
   ·replace H:=iT c10 H
    rw [c10]
    by_cases c11:a2.Cell.Some=true
    ·replace H:=iT c11 H
     rw [c11]
     refine Xn hT 2 (K47 1111111 1) [0,1,2] ⟨67,[],[rM q o.L,.obj (arO eO nlO 171 (adr o.L) (upd o.M o.r.a (slv o.r.so (P a2.Client).1.length,a2.Mark))),rS S]⟩ h0 ?_
     exact Yn H
    replace H:=iF c11 H
    rw [Zz c11]
    refine Qh hT 5 (K47 1111111010 1) ⟨67,[(6,.i 4)],[rM q o.L,.obj (arO eO nlO 171 (adr o.L) (upd o.M o.r.a (slv o.r.so (P a2.Client).1.length,a2.Mark))),rS S,.box 74 (Qa4 a2)]⟩ ?_
    obtain rfl:=Yg H
    refine Qe6 ⟨o.L,upd o.M o.r.a (slv o.r.so (P a2.Client).1.length,a2.Mark),S⟩ (by have q:=hI1.mark hor (a2.Mark);rw [hoc] at q;exact q) ?_
    exact Qee hf hX (av:=.i 4) (by kernel_rfl) [0,1,2] (Jh (by kernel_rfl)) (by decide) (by rw [h0];rfl) (by kernel_rfl) (ac (.obj _) (ac (.obj _) (ac (.obj _) an))) (.d (.v _))
   replace H:=iF c10 H
   rw [Zz c10]
   by_cases c12:a2.Cell.Some=true
   ·replace H:=iT c12 H
    rw [c12]
    refine Qh hT 5 (K47 1111111010 1) ⟨67,[(6,.i 4)],[rM q o.L,.obj (arO eO nlO 171 (adr o.L) (upd o.M o.r.a (slv o.r.so (P a2.Client).1.length,a2.Mark))),rS S,.box 74 (Qa4 a2)]⟩ ?_
    obtain rfl:=Yg H
    refine Qe6 ⟨o.L,upd o.M o.r.a (slv o.r.so (P a2.Client).1.length,a2.Mark),S⟩ (by have q:=hI1.mark hor (a2.Mark);rw [hoc] at q;exact q) ?_
    exact Qee hf hX (av:=.i 4) (by kernel_rfl) [0,1,2] (Jh (by kernel_rfl)) (by decide) (by rw [h0];rfl) (by kernel_rfl) (ac (.obj _) (ac (.obj _) (ac (.obj _) an))) (.d (.v _))
   replace H:=iF c12 H
   rw [Zz c12]
   refine Xn hT 2 (K47 1111111 1) [0,1,2] ⟨67,[],[rM q o.L,.obj (arO eO nlO 171 (adr o.L) (upd o.M o.r.a (slv o.r.so (P a2.Client).1.length,a2.Mark))),rS S]⟩ h0 ?_
   exact Yn H
  replace H:=iF c9 H
  rw [eqF c9]
  by_cases c13:v2.Some=true
  ·replace H:=iT c13 H
   rw [c13]
   by_cases c14:a2.Cell.Some=true
   ·replace H:=iT c14 H
    rw [c14]
    refine Qh hT 5 (K47 1111111010 1) ⟨67,[(6,.i 4)],[rM q o.L,.obj (arO eO nlO 171 (adr o.L) (upd o.M o.r.a (slv o.r.so (P a2.Client).1.length,a2.Mark))),rS S,.box 74 (Qa4 a2)]⟩ ?_
    obtain rfl:=Yg H
    refine Qe6 ⟨o.L,upd o.M o.r.a (slv o.r.so (P a2.Client).1.length,a2.Mark),S⟩ (by have q:=hI1.mark hor (a2.Mark);rw [hoc] at q;exact q) ?_
    exact Qee hf hX (av:=.i 4) (by kernel_rfl) [0,1,2] (Jh (by kernel_rfl)) (by decide) (by rw [h0];rfl) (by kernel_rfl) (ac (.obj _) (ac (.obj _) (ac (.obj _) an))) (.d (.v _))
   replace H:=iF c14 H
   rw [Zz c14]
   refine Qh hT 5 (K47 1111111010 1) ⟨67,[(6,.i 4)],[rM q o.L,.obj (arO eO nlO 171 (adr o.L) (upd o.M o.r.a (slv o.r.so (P a2.Client).1.length,a2.Mark))),rS S,.box 74 (Qa4 a2)]⟩ ?_
   obtain rfl:=Yg H
   refine Qe6 ⟨o.L,upd o.M o.r.a (slv o.r.so (P a2.Client).1.length,a2.Mark),S⟩ (by have q:=hI1.mark hor (a2.Mark);rw [hoc] at q;exact q) ?_
   exact Qee hf hX (av:=.i 4) (by kernel_rfl) [0,1,2] (Jh (by kernel_rfl)) (by decide) (by rw [h0];rfl) (by kernel_rfl) (ac (.obj _) (ac (.obj _) (ac (.obj _) an))) (.d (.v _))
  replace H:=iF c13 H
  rw [Zz c13]
  by_cases c15:a2.Cell.Some=true
  ·replace H:=iT c15 H
   rw [c15]
   refine Qh hT 5 (K47 1111111010 1) ⟨67,[(6,.i 4)],[rM q o.L,.obj (arO eO nlO 171 (adr o.L) (upd o.M o.r.a (slv o.r.so (P a2.Client).1.length,a2.Mark))),rS S,.box 74 (Qa4 a2)]⟩ ?_
   obtain rfl:=Yg H
   refine Qe6 ⟨o.L,upd o.M o.r.a (slv o.r.so (P a2.Client).1.length,a2.Mark),S⟩ (by have q:=hI1.mark hor (a2.Mark);rw [hoc] at q;exact q) ?_
   exact Qee hf hX (av:=.i 4) (by kernel_rfl) [0,1,2] (Jh (by kernel_rfl)) (by decide) (by rw [h0];rfl) (by kernel_rfl) (ac (.obj _) (ac (.obj _) (ac (.obj _) an))) (.d (.v _))
  replace H:=iF c15 H
  rw [Zz c15]
  refine Qh hT 5 (K47 1111111010 1) ⟨67,[(6,.i 4)],[rM q o.L,.obj (arO eO nlO 171 (adr o.L) (upd o.M o.r.a (slv o.r.so (P a2.Client).1.length,a2.Mark))),rS S,.box 74 (Qa4 a2)]⟩ ?_
  obtain rfl:=Yg H
  refine Qe6 ⟨o.L,upd o.M o.r.a (slv o.r.so (P a2.Client).1.length,a2.Mark),S⟩ (by have q:=hI1.mark hor (a2.Mark);rw [hoc] at q;exact q) ?_
  exact Qee hf hX (av:=.i 4) (by kernel_rfl) [0,1,2] (Jh (by kernel_rfl)) (by decide) (by rw [h0];rfl) (by kernel_rfl) (ac (.obj _) (ac (.obj _) (ac (.obj _) an))) (.d (.v _))
 replace H:=iF c2 H
 rw [Zz c2]
 refine Qh hT 5 (K47 11010 1) ⟨67,[(6,.i 1)],[rM q L,rA L M,rS S,.box 74 (Qa4 a2)]⟩ ?_
 obtain rfl:=Yg H
 refine Qe6 ⟨L,M,S⟩ hI ?_
 exact Qee hf hX (av:=.i 1) (by kernel_rfl) [0,1,2] (Jh (by kernel_rfl)) (by decide) (by rw [h0];rfl) (by kernel_rfl) (ac (.obj _) (ac (.obj _) (ac (.obj _) an))) (.d (.v _))
theorem Jy.Wv {t0:Bool} {t1:Bool} (a0:List Qd) (a1:List Qy) {r:(List Ym) × Int} (H:Jy a0 a1=some r):Yy Tryz.prog 24 [] [.d (Xq t0 a0),.d (Qdb t1 a1)] [Qfs r.1] (.Qn [.own 0 2 0 r.1.length,.i r.2]):=by
 refine Yc Tryz.func24 rfl (nt:=36) rfl (lb rfl) fun X hP h0 hX=>?_
 have hT:Xo X.P T:=hP▸tok
 have hf:X.P.funcs[24]? = some Tryz.f24:=hP▸Tryz.func24
 refine Qh hT 9 (K24 1100 1) ⟨36,[(0,.d (Xq t0 a0)),(1,.d (Qdb t1 a1)),(11,.d (Xq t0 a0))],[]⟩ ?_
 obtain ⟨v1,h1,H⟩:=ibC H
 refine Ws (Yk:=[.d (Xq t0 a0)]) (dst:=some 12) (k':=(K24 1100 2)) [0,1,12] [] hP Qnr (Zb.Wv (t0:=t0) a0 h1) (by kernel_rfl) (Qz _) (.cons (Qp _) .nil) (st':=⟨36,[(0,.d (Xq t0 a0)),(1,.d (Qdb t1 a1)),(12,.b v1)],[]⟩) (by kernel_rfl) ?_
 refine Qh hT 2 (K24 110 1) ⟨36,[(0,.d (Xq t0 a0)),(1,.d (Qdb t1 a1)),(13,.b (!v1))],[]⟩ ?_
 by_cases c2:v1=true
 ·replace H:=iT c2 H
  rw [c2]
  refine Qh hT 2 (K24 11 1) ⟨36,[(0,.d (Xq t0 a0)),(1,.d (Qdb t1 a1))],[]⟩ ?_
  refine Qh hT 2 (K24 1110 0) ⟨36,[(0,.d (Xq t0 a0)),(1,.d (Qdb t1 a1))],[]⟩ ?_
  refine Qzf (dst:=some 14) (k':=(K24 1110 1)) (by kernel_rfl) (st':=fun q=>⟨36,[(14,.d (.v (.map (some q)))),(0,.d (Xq t0 a0)),(1,.d (Qdb t1 a1))],[.obj (mpO q [])]⟩) (fun q=>by kernel_rfl) fun q=>?_
  refine Wet eO nlO 171 (fun _=>(Value.slice none 0 0,(0:Int))) ?_
  refine Wbm Ql.e Ql.z Ql.nl 7 39 ?_
  obtain ⟨gL,hgL⟩:∃ x,x=([]:List Rec):=⟨_,rfl⟩
  obtain ⟨gM,hgM⟩:∃ x,x=(fun _=>(Value.slice none 0 0,0):Nat->Value × Int):=⟨_,rfl⟩
  obtain ⟨gS,hgS⟩:∃ x,x=([]:List (Nat × Nat × List Ql)):=⟨_,rfl⟩
  have gI:Qf7 gL gM gS (fun _=>([],0):PT):=by rw [hgL,hgM,hgS];exact Qf7.nil
  refine Qm0 [0,1,14] (st':=⟨36,[(0,.d (Xq t0 a0)),(1,.d (Qdb t1 a1)),(14,.d (.v (.map (some q))))],[rM q gL,rA gL gM,rS gS]⟩) (by rw [hgL,hgM,hgS];kernel_rfl) ?_
  refine Qh hT 15 (K24 11111010 0) ⟨36,[(0,.d (Xq t0 a0)),(6,.d (.v (.map (some q)))),(7,.ns),(15,.d (Qdb t1 a1)),(16,.i (a1.length:Int)),(17,.i 0)],[rM q gL,rA gL gM,rS gS]⟩ ?_
  refine Qc6 [0,6,7,15,16,17] 7 2 86 (vec Ym.e Ym.z []) (st':=⟨36,[(0,.d (Xq t0 a0)),(6,.d (.v (.map (some q)))),(7,.own 3 2 0 0),(15,.d (Qdb t1 a1)),(16,.i (a1.length:Int)),(17,.i 0)],[rM q gL,rA gL gM,rS gS,Qfs ([]:List Ym)]⟩) (by kernel_rfl) (by kernel_rfl) ?_
  have L:∀ n,(∀ (Zf:Int) (Qj:PT) (Yl:List Ym) (gL:List Rec) (gM:Nat->Value × Int) (gS:List (Nat × Nat × List Ql)) (gI:Qf7 gL gM gS Qj),iter (Jy.step a0 a1) n (.l1 Zf Qj Yl)=some r->AK X 24 ((K24 11111010 0)) (Yt X [Qfs r.1] (.Qn [.own 0 2 0 r.1.length,.i r.2])) ⟨36,[(0,.d (Xq t0 a0)),(6,.d (.v (.map (some q)))),(7,.own 3 2 0 Yl.length),(15,.d (Qdb t1 a1)),(16,.i (a1.length:Int)),(17,.i Zf)],[rM q gL,rA gL gM,rS gS,Qfs Yl]⟩):=by
   intro n
   induction n with
   | zero=>exact fun _ _ _ _ _ _ _ H=>Qbd H
   | succ n ih=>
    ·intro Zf Qj Yl gL gM gS gI H
     refine Qh hT 5 (K24 1111101001 0) ⟨36,[(0,.d (Xq t0 a0)),(6,.d (.v (.map (some q)))),(7,.own 3 2 0 Yl.length),(15,.d (Qdb t1 a1)),(16,.i (a1.length:Int)),(17,.i Zf),(18,.b (decide (Zf < (a1.length:Int))))],[rM q gL,rA gL gM,rS gS,Qfs Yl]⟩ ?_
     by_cases c3:Zf < (a1.length:Int)
     ·replace H:=sT c3 H
      rw [decide_eq_true c3]
      refine Qh hT 2 (K24 1111101001 1) ⟨36,[(0,.d (Xq t0 a0)),(6,.d (.v (.map (some q)))),(7,.own 3 2 0 Yl.length),(15,.d (Qdb t1 a1)),(16,.i (a1.length:Int)),(17,.i Zf)],[rM q gL,rA gL gM,rS gS,Qfs Yl]⟩ ?_
      refine Qh hT 5 (K24 11111010011000 1) ⟨36,[(0,.d (Xq t0 a0)),(6,.d (.v (.map (some q)))),(7,.own 3 2 0 Yl.length),(15,.d (Qdb t1 a1)),(16,.i (a1.length:Int)),(17,.i Zf),(19,.i Zf)],[rM q gL,rA gL gM,rS gS,Qfs Yl]⟩ ?_
      obtain ⟨h4,H⟩:=sC H
      refine Jf hT [0,6,7,15,16,17,19,20] (i:=Zf) (n:=(a1.length:Int)) h4.1 h4.2 (k':=(K24 11111010011000 2)) (st':=⟨36,[(0,.d (Xq t0 a0)),(6,.d (.v (.map (some q)))),(7,.own 3 2 0 Yl.length),(15,.d (Qdb t1 a1)),(16,.i (a1.length:Int)),(17,.i Zf),(19,.i Zf),(20,.d (Wij t1 a1 Zf.toNat 0))],[rM q gL,rA gL gM,rS gS,Qfs Yl]⟩) (by kernel_rfl) ?_
      refine Qh hT 10 (K24 111110100110010 3) ⟨36,[(0,.d (Xq t0 a0)),(6,.d (.v (.map (some q)))),(7,.own 3 2 0 Yl.length),(8,.i Zf),(15,.d (Qdb t1 a1)),(16,.i (a1.length:Int)),(17,.i Zf),(22,.d (.v (.map (some q)))),(23,.d (Xq t0 a0)),(24,.d (Qrj (a1.getD Zf.toNat Qy.z)))],[rM q gL,rA gL gM,rS gS,Qfs Yl,.box 74 (Qa4 (a1.getD Zf.toNat Qy.z))]⟩ ?_
      obtain ⟨v2,h5,H⟩:=sbC H
      refine Qv0 (Yk:=[.d (.v (.map (some q))),.d (Xq t0 a0),.d (Qrj (a1.getD Zf.toNat Qy.z))]) (dst:=some 25) (k':=(K24 111110100110010 4)) [0,1,2] hP Wb8 (Qci.Wv (t1:=t0) q gL gM gS Qj gI a0 (a1.getD Zf.toNat Qy.z) h5) (by kernel_rfl) (Qmu rfl rfl rfl (by decide)) (.cons (Qp _) (.cons (Qp _) (.cons (Qp _) .nil))) (st':=fun g3=>⟨36,[(25,.i v2.1),(0,.d (Xq t0 a0)),(6,.d (.v (.map (some q)))),(7,.own 3 2 0 Yl.length),(8,.i Zf),(15,.d (Qdb t1 a1)),(16,.i (a1.length:Int)),(17,.i Zf),(22,.d (.v (.map (some q)))),(23,.d (Xq t0 a0)),(24,.d (Qrj (a1.getD Zf.toNat Qy.z)))],[rM q g3.L,rA g3.L g3.M,rS g3.S,Qfs Yl,.box 74 (Qa4 (a1.getD Zf.toNat Qy.z))]⟩) (fun g3=>by kernel_rfl) fun g3 hg3=>?_
      refine Qh hT 7 (K24 111110100110011 1) ⟨36,[(0,.d (Xq t0 a0)),(6,.d (.v (.map (some q)))),(7,.own 3 2 0 Yl.length),(8,.i Zf),(10,.i v2.1),(15,.d (Qdb t1 a1)),(16,.i (a1.length:Int)),(17,.i Zf),(27,.b (v2.1 != 0))],[rM q g3.L,rA g3.L g3.M,rS g3.S,Qfs Yl,.box 74 (Qa4 (a1.getD Zf.toNat Qy.z))]⟩ ?_
      have Yn:∀ (Qla:List Ym),stk (Jy.j1 Zf v2 Qla) (iter (Jy.step a0 a1) n)=some r->AK X 24 ((K24 11111010011 1)) (Yt X [Qfs r.1] (.Qn [.own 0 2 0 r.1.length,.i r.2])) ⟨36,[(0,.d (Xq t0 a0)),(6,.d (.v (.map (some q)))),(7,.own 3 2 0 Qla.length),(15,.d (Qdb t1 a1)),(16,.i (a1.length:Int)),(17,.i Zf)],[rM q g3.L,rA g3.L g3.M,rS g3.S,Qfs Qla]⟩:=by
       intro Qla H
       refine Xn hT 5 (K24 11111010 0) [0,1,2,3] ⟨36,[(0,.d (Xq t0 a0)),(6,.d (.v (.map (some q)))),(7,.own 3 2 0 Qla.length),(15,.d (Qdb t1 a1)),(16,.i (a1.length:Int)),(17,.i (IntKind.wrap .i64 (Zf+1)))],[rM q g3.L,rA g3.L g3.M,rS g3.S,Qfs Qla]⟩ h0 ?_
       exact ih (IntKind.wrap .i64 (Zf+1)) v2.2 Qla g3.L g3.M g3.S hg3 H
      by_cases c6:v2.1=0
      ·replace H:=sT c6 H
       rw [neF c6]
       refine Xn hT 3 (K24 11111010011 1) [0,1,2,3] ⟨36,[(0,.d (Xq t0 a0)),(6,.d (.v (.map (some q)))),(7,.own 3 2 0 Yl.length),(15,.d (Qdb t1 a1)),(16,.i (a1.length:Int)),(17,.i Zf)],[rM q g3.L,rA g3.L g3.M,rS g3.S,Qfs Yl]⟩ h0 ?_
       exact Yn Yl H
      replace H:=sF c6 H
      rw [neT c6]
      refine Qh hT 7 (K24 11111010011001110 5) ⟨36,[(0,.d (Xq t0 a0)),(6,.d (.v (.map (some q)))),(15,.d (Qdb t1 a1)),(16,.i (a1.length:Int)),(17,.i Zf),(28,.own 3 2 0 Yl.length),(32,.own 5 2 0 1)],[rM q g3.L,rA g3.L g3.M,rS g3.S,Qfs Yl,.box 74 (Qa4 (a1.getD Zf.toNat Qy.z)),.flat false 2 86 1 (fun j=>[[.i Zf,.i v2.1]].getD j [])]⟩ ?_
      obtain ⟨h7,H⟩:=sC H
      refine Qcw (id:=3) (kk:=2) (by':=16) (t:=82) (e:=86) (z:=[.int .i64 0,.int .i64 0]) (dst:=some 33) (id2:=5) (e2:=86) (fz:=false) (k':=(K24 11111010011001110 6)) hT Ym.e Ym.z Yl (⟨Zf,v2.1⟩:Ym) [0,6,15,16,17,33] (by kernel_rfl) (by kernel_rfl) (by kernel_rfl) (by kernel_rfl) (by kernel_rfl) (by kernel_rfl) (by kernel_rfl) h7 (by omega) (st':=⟨36,[(0,.d (Xq t0 a0)),(6,.d (.v (.map (some q)))),(15,.d (Qdb t1 a1)),(16,.i (a1.length:Int)),(17,.i Zf),(33,.own 6 2 0 ((Yl ++ [(⟨Zf,v2.1⟩:Ym)]).length))],[rM q g3.L,rA g3.L g3.M,rS g3.S,.gone,.box 74 (Qa4 (a1.getD Zf.toNat Qy.z)),.flat false 2 86 1 (fun j=>[[.i Zf,.i v2.1]].getD j []),Qfs (Yl ++ [(⟨Zf,v2.1⟩:Ym)])]⟩) (by kernel_rfl) ?_
      refine Xn hT 3 (K24 11111010011 1) [0,1,2,6] ⟨36,[(0,.d (Xq t0 a0)),(6,.d (.v (.map (some q)))),(7,.own 3 2 0 (Yl ++ [(⟨Zf,v2.1⟩:Ym)]).length),(15,.d (Qdb t1 a1)),(16,.i (a1.length:Int)),(17,.i Zf)],[rM q g3.L,rA g3.L g3.M,rS g3.S,Qfs (Yl ++ [(⟨Zf,v2.1⟩:Ym)])]⟩ h0 ?_
      exact Yn (Yl ++ [(⟨Zf,v2.1⟩:Ym)]) H
     replace H:=sF c3 H
     rw [decide_eq_false c3]
     refine Qh hT 8 (K24 111111 1) ⟨36,[(4,.own 3 2 0 Yl.length),(5,.i 0)],[rM q gL,rA gL gM,rS gS,Qfs Yl]⟩ ?_
     obtain rfl:=Yg H
     exact Yi hf hX h0 (.Qn [.own 3 2 0 Yl.length,.i 0]) [3] (ac (Qa1 Ym.nl) an) (.Qn (.cons (.own _ _ _ _) (.cons (.d (.v _)) .nil)))
  refine Qhm [0,1,2,3] ⟨36,[(0,.d (Xq t0 a0)),(6,.d (.v (.map (some q)))),(7,.own 3 2 0 ([]:List Ym).length),(15,.d (Qdb t1 a1)),(16,.i (a1.length:Int)),(17,.i 0)],[rM q gL,rA gL gM,rS gS,Qfs ([]:List Ym)]⟩ h0 ?_
  obtain ⟨n,H⟩:=Qbz H
  exact (L n) 0 (fun _=>([],0):PT) ([]:List Ym) gL gM gS gI H
 replace H:=iF c2 H
 rw [Zz c2]
 refine Qh hT 6 (K24 11010 1) ⟨36,[(4,.ns),(5,.i 1)],[]⟩ ?_
 refine Qc6 [4,5] 4 2 86 (vec Ym.e Ym.z []) (st':=⟨36,[(4,.own 0 2 0 0),(5,.i 1)],[Qfs ([]:List Ym)]⟩) (by kernel_rfl) (by kernel_rfl) ?_
 obtain rfl:=Yg H
 exact Yi hf hX h0 (.Qn [.own 0 2 0 0,.i 1]) [0] (ac (Qa1 Ym.nl) an) (.Qn (.cons (.own _ _ _ _) (.cons (.d (.v _)) .nil)))
end Go.SyP
