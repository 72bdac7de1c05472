/- What audit says of one event, with the map of what was. Printed by gen24.py. -/
import Derived.Test.YtdndobkfnmommaaG24A
import Derived.Test.YtdndobkfnmommaaG24Cp1
set_option linter.unusedVariables false
set_option linter.unusedSimpArgs false
namespace Go.SyP
open Go Go.Sy Go.Proofs
structure WhyG where
 L:List Rec
 M:Nat→Value × Int
 S:List (Nat × Nat × List api_Mut)

theorem audit_why.says {t1:Bool} (q:Nat) (L:List Rec) (M:Nat→Value × Int) (S:List (Nat × Nat × List api_Mut)) (P:PT) (hI:PInv L M S P) (a1:List api_Entry) (a2:api_Event) {r:Int × PT} (H:audit_why a1 a2 P=some r):
  SaysE Try.prog 22 [rM q L,rA L M,rS S] [.d (.v (.map (some q))),.d (eL74 t1 a1),.d (eG52 a2)] (fun g:WhyG=>PInv g.L g.M g.S r.2) (fun g=>[rM q g.L,rA g.L g.M,rS g.S]) (fun _=>.i r.1):=by
 refine saysE_of Try.func22 rfl (nt:=67) rfl (Nat.le_of_ble_eq_true rfl) fun X hP h0 hX=>?_
 have hT:TabOk X.P T:=hP▸tok
 have hf:X.P.funcs[22]? = some Try.f22:=hP▸Try.func22
 refine goK hT 9 (K22 1100 1) ⟨67,[(0,.d (.v (.map (some q)))),(1,.d (eL74 t1 a1)),(5,.ptr 3 0 0 0),(9,.d (eG52 a2))],[rM q L,rA L M,rS S,.box 52 (eC52 a2)]⟩ ?_
 obtain ⟨v1,h1,H⟩:=ibC H
 refine ak_callP (avs:=[.d (eG52 a2)]) (dst:=some 10) (k':=(K22 1100 2)) [0,1,5,10] [] hP enters_37 (audit_formed.says a2 h1) (by kernel_rfl) (hands_none _) (.cons (pass_d _) .nil) (st':=⟨67,[(0,.d (.v (.map (some q)))),(1,.d (eL74 t1 a1)),(5,.ptr 3 0 0 0),(10,.b v1)],[rM q L,rA L M,rS S,.box 52 (eC52 a2)]⟩) (by kernel_rfl) ?_
 refine goK hT 2 (K22 110 1) ⟨67,[(0,.d (.v (.map (some q)))),(1,.d (eL74 t1 a1)),(5,.ptr 3 0 0 0),(11,.b (!v1))],[rM q L,rA L M,rS S,.box 52 (eC52 a2)]⟩ ?_
 by_cases c2:v1=true
 ·replace H:=iT c2 H
  rw [c2]
  refine goK hT 2 (K22 11 1) ⟨67,[(0,.d (.v (.map (some q)))),(1,.d (eL74 t1 a1)),(5,.ptr 3 0 0 0)],[rM q L,rA L M,rS S,.box 52 (eC52 a2)]⟩ ?_
  refine goK hT 5 (K22 1110 3) ⟨67,[(1,.d (eL74 t1 a1)),(5,.ptr 3 0 0 0),(12,.d (.v (.map (some q)))),(14,.i a2.Client)],[rM q L,rA L M,rS S,.box 52 (eC52 a2)]⟩ ?_
  refine ak_callE (avs:=[.d (.v (.map (some q))),.i a2.Client]) (dst:=some 15) (k':=(K22 1110 4)) [0,1] hP enters_41 (of_says q L M S P hI (a2.Client)) (by kernel_rfl) (hands_two rfl rfl rfl rfl (by decide)) (.cons (pass_d _) (.cons (pass_d _) .nil)) (st':=fun o=>⟨67,[(15,.d (pA o.r.a 0)),(1,.d (eL74 t1 a1)),(5,.ptr 3 0 0 0),(12,.d (.v (.map (some q)))),(14,.i a2.Client)],[rM q o.L,rA o.L o.M,rS S,.box 52 (eC52 a2)]⟩) (fun o=>by kernel_rfl) fun o ho=>?_
  obtain ⟨hI1,hor,hoc⟩:=ho
  have hob:=hI1.obj o.r hor
  have hin:=hI1.mem hor
  rw [hoc] at hob hin
  obtain ⟨hM1,hz⟩:=hob
  have hmem:=adr_mem hor
  refine goK hT 9 (K22 11110 1) ⟨67,[(1,.d (eL74 t1 a1)),(5,.ptr 3 0 0 0),(7,.d (pA o.r.a 0)),(18,.b (a2.Kind == 1))],[rM q o.L,rA o.L o.M,rS S,.box 52 (eC52 a2)]⟩ ?_
  by_cases c3:a2.Kind=1
  ·replace H:=iT c3 H
   rw [eqT c3]
   refine goK hT 3 (K22 11110100 0) ⟨67,[(5,.ptr 3 0 0 0),(7,.d (pA o.r.a 0))],[rM q o.L,rA o.L o.M,rS S,.box 52 (eC52 a2)]⟩ ?_
   refine drawK (hP▸mixed) 10 [5,7] [some (.ptr 3 0 0 2),some (.ptr 3 0 0 3),some (.i a2.M.Seq),some (.d (pA o.r.a 0)),some (.d (pA o.r.a 0)),some (.d (pA o.r.a 0)),some (.d (.v (slv o.r.so (P a2.Client).1.length))),some (.i ((P a2.Client).1.length:Int)),some (.i (IntKind.wrap .i64 (((P a2.Client).1.length:Int)+1))),some (.b (a2.M.Seq != (IntKind.wrap .i64 (((P a2.Client).1.length:Int)+1))))] (opG (opG (opS (opS (opG (opG (opG (opG (opG (opG op0 hT) hT) hT) hT) hT) hT) (fun R rest h=>ak_lda0 hT (e:=eO) (he:=nlO) (ty:=113) (dom:=adr o.L) (m:=o.M) 1 (a:=o.r.a) (off:=0) (s:=1) (agg:=false) (dst:=some 25) [.v (slv o.r.so (P a2.Client).1.length)] (by kernel_rfl) (by kernel_rfl) hmem (by rw [hM1];rfl) rfl (fun _=>rfl) (by kernel_rfl) h)) (fun R rest h=>ak_lenV hT (so:=o.r.so) (n:=(P a2.Client).1.length) (dst:=some 26) (by kernel_rfl) (fun e=>by rw [hz e];rfl) (by kernel_rfl) h)) hT) hT) ?_
   refine goK hT 1 (K22 11110100 1) ⟨67,[(5,.ptr 3 0 0 0),(7,.d (pA o.r.a 0)),(28,.b (a2.M.Seq != (IntKind.wrap .i64 (((P a2.Client).1.length:Int)+1))))],[rM q o.L,rA o.L o.M,rS S,.box 52 (eC52 a2)]⟩ ?_
   by_cases c4:a2.M.Seq=(IntKind.wrap .i64 (((P a2.Client).1.length:Int)+1))
   ·replace H:=iT c4 H
    rw [neF c4]
    refine goK hT 2 (K22 1111010 1) ⟨67,[(5,.ptr 3 0 0 0),(7,.d (pA o.r.a 0))],[rM q o.L,rA o.L o.M,rS S,.box 52 (eC52 a2)]⟩ ?_
    refine goK hT 11 (K22 1111010110 2) ⟨67,[(7,.d (pA o.r.a 0)),(8,.ptr 4 0 0 0),(32,.d (eL76 true a2.M.Pairs))],[rM q o.L,rA o.L o.M,rS S,.box 52 (eC52 a2),.box 48 (eC48 a2.M)]⟩ ?_
    obtain ⟨h5,H⟩:=iC H
    refine ak_callP (avs:=[.d (eL76 true a2.M.Pairs)]) (dst:=some 33) (k':=(K22 1111010110 3)) [7,8,33] [] hP enters_38 (clone38 (tg:=true) a2.M.Pairs h5) (by kernel_rfl) (hands_none _) (.cons (pass_d _) .nil) (st':=⟨67,[(7,.d (pA o.r.a 0)),(8,.ptr 4 0 0 0),(33,.own 5 2 0 a2.M.Pairs.length)],[rM q o.L,rA o.L o.M,rS S,.box 52 (eC52 a2),.box 48 (eC48 a2.M),eR76 a2.M.Pairs]⟩) (by kernel_rfl) ?_
    refine goK hT 4 (K22 1111010111 0) ⟨67,[(7,.d (pA o.r.a 0)),(8,.ptr 4 0 0 0)],[rM q o.L,rA o.L o.M,rS S,.box 52 (eC52 a2),.box 48 [.i a2.M.Client,.i a2.M.Seq,.i a2.M.Kind,.own 5 2 0 a2.M.Pairs.length,.i a2.M.Over.Lo,.i a2.M.Over.Hi,.i a2.M.Old],eR76 a2.M.Pairs]⟩ ?_
    obtain ⟨L1,L2,hL,hS2,hx⟩:=hI1.split hor
    rw [hoc] at hS2
    refine ak_permS (e:=api_Mut.e) (z:=api_Mut.z) (he:=api_Mut.nl) (kk:=7) (ty:=48) 2 (S:=S) (S':=sb o.r.so (P a2.Client).1 ++ blks P (L1 ++ L2)) (by kernel_rfl) hS2 ?_
    refine ak_keep [7,8] (st':=⟨67,[(7,.d (pA o.r.a 0)),(8,.ptr 4 0 0 0)],[rM q o.L,rA o.L o.M,rS (sb o.r.so (P a2.Client).1 ++ blks P (L1 ++ L2)),.box 52 (eC52 a2),.box 48 [.i a2.M.Client,.i a2.M.Seq,.i a2.M.Kind,.own 5 2 0 a2.M.Pairs.length,.i a2.M.Over.Lo,.i a2.M.Over.Hi,.i a2.M.Old],eR76 a2.M.Pairs]⟩) (by kernel_rfl) ?_
    refine ak_freeze 5 (kk:=2) (n:=a2.M.Pairs.length) (ty:=76) (g:=vec api_Pair.e api_Pair.z a2.M.Pairs) (by kernel_rfl) (st':=⟨67,[(7,.d (pA o.r.a 0)),(8,.ptr 4 0 0 0)],[rM q o.L,rA o.L o.M,rS (sb o.r.so (P a2.Client).1 ++ blks P (L1 ++ L2)),.box 52 (eC52 a2),.box 48 [.i a2.M.Client,.i a2.M.Seq,.i a2.M.Kind,.own 5 2 0 a2.M.Pairs.length,.i a2.M.Over.Lo,.i a2.M.Over.Hi,.i a2.M.Old],eF76 a2.M.Pairs]⟩) (by kernel_rfl) ?_
    refine ak_sealBox 4 (ty:=48) (xs:=[.i a2.M.Client,.i a2.M.Seq,.i a2.M.Kind,.own 5 2 0 a2.M.Pairs.length,.i a2.M.Over.Lo,.i a2.M.Over.Hi,.i a2.M.Old]) (ys:=[.i a2.M.Client,.i a2.M.Seq,.i a2.M.Kind,eL76 true a2.M.Pairs,.i a2.M.Over.Lo,.i a2.M.Over.Hi,.i a2.M.Old]) (by kernel_rfl) (.cons (.d _) (.cons (.d _) (.cons (.d _) (.cons (.own (ty:=76) (k:=2) (by kernel_rfl)) (.cons (.d _) (.cons (.d _) (.cons (.d _) .nil))))))) (st':=⟨67,[(7,.d (pA o.r.a 0)),(8,.ptr 4 0 0 0)],[rM q o.L,rA o.L o.M,rS (sb o.r.so (P a2.Client).1 ++ blks P (L1 ++ L2)),.box 52 (eC52 a2),.box 48 (eC48 a2.M),eF76 a2.M.Pairs]⟩) (by kernel_rfl) ?_
    obtain ⟨h6,H⟩:=iC H
    refine ak_drawAtE2 (nt:=67) (hP▸mixed) 8 4 6 [7,8] [(7,.d (pA o.r.a 0)),(8,.ptr 4 0 0 0)] [4,6,7] [6,4,7] [some (.d (pA o.r.a 0)),some (.d (pA o.r.a 0)),some (.d (pA o.r.a 0)),some (.d (pA o.r.a 0)),some (.own 6 7 0 ((P a2.Client).1.length)),some (.d (eG48 a2.M)),some (.own 7 7 0 1),some (.own 8 7 0 ((((P a2.Client).1) ++ [a2.M]).length))] [some (.d (pA o.r.a 0)),some (.d (pA o.r.a 0)),some (.d (pA o.r.a 0)),some (.d (pA o.r.a 0)),some (.own 7 7 0 ((P a2.Client).1.length)),some (.d (eG48 a2.M)),some (.own 6 7 0 1),some (.own 8 7 0 ((((P a2.Client).1) ++ [a2.M]).length))] [[rM q o.L,rA o.L o.M,rS (sb o.r.so (P a2.Client).1 ++ blks P (L1 ++ L2)),.box 52 (eC52 a2),.box 48 (eC48 a2.M),eF76 a2.M.Pairs],[rM q o.L,rA o.L o.M,rS (blks P (L1 ++ L2)),.box 52 (eC52 a2),.box 48 (eC48 a2.M),eF76 a2.M.Pairs,eR48 ((P a2.Client).1)],[rM q o.L,rA o.L o.M,rS (blks P (L1 ++ L2)),.box 52 (eC52 a2),.box 48 (eC48 a2.M),eF76 a2.M.Pairs,eR48 ((P a2.Client).1),.flat false 7 48 1 (fun j=>[api_Mut.e a2.M].getD j [])],[rM q o.L,rA o.L o.M,rS (blks P (L1 ++ L2)),.box 52 (eC52 a2),.box 48 (eC48 a2.M),eF76 a2.M.Pairs,.gone,.flat false 7 48 1 (fun j=>[api_Mut.e a2.M].getD j []),eR48 (((P a2.Client).1) ++ [a2.M])]] [[rM q o.L,rA o.L o.M,rS (sb o.r.so (P a2.Client).1 ++ blks P (L1 ++ L2)),.box 52 (eC52 a2),.box 48 (eC48 a2.M),eF76 a2.M.Pairs],[rM q o.L,rA o.L o.M,rS (sb o.r.so (P a2.Client).1 ++ blks P (L1 ++ L2)),.box 52 (eC52 a2),.box 48 (eC48 a2.M),eF76 a2.M.Pairs,.flat false 7 48 1 (fun j=>[api_Mut.e a2.M].getD j [])],[rM q o.L,rA o.L o.M,rS (blks P (L1 ++ L2)),.box 52 (eC52 a2),.box 48 (eC48 a2.M),eF76 a2.M.Pairs,.flat false 7 48 1 (fun j=>[api_Mut.e a2.M].getD j []),eR48 ((P a2.Client).1)],[rM q o.L,rA o.L o.M,rS (blks P (L1 ++ L2)),.box 52 (eC52 a2),.box 48 (eC48 a2.M),eF76 a2.M.Pairs,.flat false 7 48 1 (fun j=>[api_Mut.e a2.M].getD j []),.gone,eR48 (((P a2.Client).1) ++ [a2.M])]] (by kernel_rfl) (by kernel_rfl) rfl (by kernel_rfl) (by decide) (by decide) (by decide) (by kernel_rfl) (by kernel_rfl) ⟨(opXE (opXE (opGE (opXE (opGE (opGE (opGE (opGE opE0 hT) hT) hT) hT)) hT))),(fun R rest h=>ak_ldCarve (e:=api_Mut.e) (z:=api_Mut.z) (he:=api_Mut.nl) (kk:=7) (ty:=48) (tq:=113) hT (M:=o.M) (dom:=adr o.L) 1 2 (a:=o.r.a) (so:=o.r.so) (l:=(P a2.Client).1) (mk:=(P a2.Client).2) (S:=blks P (L1 ++ L2)) (dst:=39) (by kernel_rfl) (by kernel_rfl) hmem hM1 hz (by kernel_rfl) (by kernel_rfl) h),⟨(opXE (opXE (opGE (opXE (opGE (opGE (opGE (opGE opE0 hT) hT) hT) hT)) hT))),(op_goFK hT),⟨(opXE (opXE (opGE (opXE (opGE (opGE (opGE (opGE opE0 hT) hT) hT) hT)) hT))),(fun R rest h=>ak_append10 (id:=6) (kk:=7) (id2:=7) (by':=72) (t:=65) (e:=48) (e2:=48) (z:=[.int .i64 0,.int .i64 0,.int .i64 0,.slice none 0 0,.int .i64 0,.int .i64 0,.int .i64 0]) (dst:=some 42) (fz:=false) hT api_Mut.e api_Mut.z ((P a2.Client).1) a2.M (by kernel_rfl) (by kernel_rfl) (by kernel_rfl) (by kernel_rfl) (by kernel_rfl) (by kernel_rfl) (by kernel_rfl) h6 (by omega) (by kernel_rfl) h),(opXE (opXE (opGE (opXE (opGE (opGE (opGE (opGE opE0 hT) hT) hT) hT)) hT)))⟩⟩⟩ ⟨(opXE (opXE (opGE (opXE (opGE (opGE (opGE (opGE opE0 hT) hT) hT) hT)) hT))),(op_goFK hT),⟨(opXE (opXE (opGE (opXE (opGE (opGE (opGE (opGE opE0 hT) hT) hT) hT)) hT))),(fun R rest h=>ak_ldCarve (e:=api_Mut.e) (z:=api_Mut.z) (he:=api_Mut.nl) (kk:=7) (ty:=48) (tq:=113) hT (M:=o.M) (dom:=adr o.L) 1 2 (a:=o.r.a) (so:=o.r.so) (l:=(P a2.Client).1) (mk:=(P a2.Client).2) (S:=blks P (L1 ++ L2)) (dst:=39) (by kernel_rfl) (by kernel_rfl) hmem hM1 hz (by kernel_rfl) (by kernel_rfl) h),⟨(opXE (opXE (opGE (opXE (opGE (opGE (opGE (opGE opE0 hT) hT) hT) hT)) hT))),(fun R rest h=>ak_append10 (id:=7) (kk:=7) (id2:=6) (by':=72) (t:=65) (e:=48) (e2:=48) (z:=[.int .i64 0,.int .i64 0,.int .i64 0,.slice none 0 0,.int .i64 0,.int .i64 0,.int .i64 0]) (dst:=some 42) (fz:=false) hT api_Mut.e api_Mut.z ((P a2.Client).1) a2.M (by kernel_rfl) (by kernel_rfl) (by kernel_rfl) (by kernel_rfl) (by kernel_rfl) (by kernel_rfl) (by kernel_rfl) h6 (by omega) (by kernel_rfl) h),(opXE (opXE (opGE (opXE (opGE (opGE (opGE (opGE opE0 hT) hT) hT) hT)) hT)))⟩⟩⟩ (fun h=>cutK [0,1,2,3,4,5,7,6,8] _ h0 h) ?_
    refine goK hT 2 (K22 11110101110 10) ⟨67,[(42,.own 8 7 0 ((((P a2.Client).1) ++ [a2.M]).length)),(44,.d (pA o.r.a 0))],[rM q o.L,rA o.L o.M,rS (blks P (L1 ++ L2)),.box 52 (eC52 a2),.box 48 (eC48 a2.M),eF76 a2.M.Pairs,.gone,.flat false 7 48 1 (fun j=>[api_Mut.e a2.M].getD j []),eR48 (((P a2.Client).1) ++ [a2.M])]⟩ ?_
    refine ak_fill (e:=api_Mut.e) (z:=api_Mut.z) (he:=api_Mut.nl) (kk:=7) (ty:=48) 42 2 8 (l:=((P a2.Client).1) ++ [a2.M]) (S:=blks P (L1 ++ L2)) (by kernel_rfl) (by kernel_rfl) (by kernel_rfl) fun so hso=>?_
    refine ak_keep [42,44] (st':=⟨67,[(42,.d (.v (slv so (((P a2.Client).1) ++ [a2.M]).length))),(44,.d (pA o.r.a 0))],[rM q o.L,rA o.L o.M,rS (blks P (L1 ++ L2) ++ sb so (((P a2.Client).1) ++ [a2.M])),.box 52 (eC52 a2),.box 48 (eC48 a2.M),eF76 a2.M.Pairs,.gone,.flat false 7 48 1 (fun j=>[api_Mut.e a2.M].getD j []),.gone]⟩) (by kernel_rfl) ?_
    refine ak_sta hT [] (e:=eO) (he:=nlO) (ty:=113) (dom:=adr o.L) (m:=o.M) 1 (a:=o.r.a) (off:=0) (s:=1) (ds:=[.v (slv so (((P a2.Client).1) ++ [a2.M]).length)]) (k':=(K22 11110101110 11)) (slv so (((P a2.Client).1) ++ [a2.M]).length,(P a2.Client).2) (by kernel_rfl) (by kernel_rfl) hmem (Nat.le_of_ble_eq_true rfl) (by rw [hM1];rfl) (st':=⟨67,[],[rM q o.L,.obj (arO eO nlO 113 (adr o.L) (upd o.M o.r.a (slv so (((P a2.Client).1) ++ [a2.M]).length,(P a2.Client).2))),rS (blks P (L1 ++ L2) ++ sb so (((P a2.Client).1) ++ [a2.M])),.box 52 (eC52 a2),.box 48 (eC48 a2.M),eF76 a2.M.Pairs,.gone,.flat false 7 48 1 (fun j=>[api_Mut.e a2.M].getD j []),.gone]⟩) (by kernel_rfl) ?_
    refine goK hT 5 (K22 11110101111 1) ⟨67,[(6,.i 0)],[rM q o.L,.obj (arO eO nlO 113 (adr o.L) (upd o.M o.r.a (slv so (((P a2.Client).1) ++ [a2.M]).length,(P a2.Client).2))),rS (blks P (L1 ++ L2) ++ sb so (((P a2.Client).1) ++ [a2.M])),.box 52 (eC52 a2),.box 48 (eC48 a2.M),eF76 a2.M.Pairs,.gone,.flat false 7 48 1 (fun j=>[api_Mut.e a2.M].getD j []),.gone]⟩ ?_
    obtain rfl:=retC H
    have q1:=hI1.put hL hx so (((P a2.Client).1) ++ [a2.M]) ((P a2.Client).2) (fun e=>absurd (hso e) (by simp))
    have e1:=mpK_put (L1:=L1) (L2:=L2) (r:=o.r) so
    have e2:=adr_put (L1:=L1) (L2:=L2) (r:=o.r) so
    rw [hoc] at q1 e1 e2
    rw [← hL] at e1 e2
    refine ak_ghost ⟨L1 ++ ⟨a2.Client,o.r.a,so⟩ :: L2,upd o.M o.r.a (slv so (((P a2.Client).1) ++ [a2.M]).length,(P a2.Client).2),blks P (L1 ++ L2) ++ sb so (((P a2.Client).1) ++ [a2.M])⟩ q1 ?_
    show AK X 22 _ (Back X [.obj (mpO q (mpK (L1 ++ ⟨a2.Client,o.r.a,so⟩ :: L2))),.obj (arO eO nlO 113 (adr (L1 ++ ⟨a2.Client,o.r.a,so⟩ :: L2)) (upd o.M o.r.a (slv so (((P a2.Client).1) ++ [a2.M]).length,(P a2.Client).2))),rS (blks P (L1 ++ L2) ++ sb so (((P a2.Client).1) ++ [a2.M]))] (.i 0)) _
    rw [e1,e2]
    exact ak_ret hf hX (av:=.i 0) (by kernel_rfl) [0,1,2] (sel_of_eq (by kernel_rfl)) (by decide) (by rw [h0];rfl) (by kernel_rfl) (fun _ h=>all_cons (.obj _) (fun _ h=>all_cons (.obj _) (fun _ h=>all_cons (.obj _) (fun _ h=>all_nil h) h) h) h) (.d (.v _))
   ·replace H:=iF c4 H
    rw [neT c4]
    refine goK hT 5 (K22 1111010010 1) ⟨67,[(6,.i 2)],[rM q o.L,rA o.L o.M,rS S,.box 52 (eC52 a2)]⟩ ?_
    obtain rfl:=retC H
    refine ak_ghost ⟨o.L,o.M,S⟩ hI1 ?_
    exact ak_ret hf hX (av:=.i 2) (by kernel_rfl) [0,1,2] (sel_of_eq (by kernel_rfl)) (by decide) (by rw [h0];rfl) (by kernel_rfl) (fun _ h=>all_cons (.obj _) (fun _ h=>all_cons (.obj _) (fun _ h=>all_cons (.obj _) (fun _ h=>all_nil h) h) h) h) (.d (.v _))
  ·replace H:=iF c3 H
   rw [eqF c3]
   refine goK hT 2 (K22 1111 1) ⟨67,[(1,.d (eL74 t1 a1)),(5,.ptr 3 0 0 0),(7,.d (pA o.r.a 0))],[rM q o.L,rA o.L o.M,rS S,.box 52 (eC52 a2)]⟩ ?_
   refine goK hT 2 (K22 111110 0) ⟨67,[(1,.d (eL74 t1 a1)),(5,.ptr 3 0 0 0),(7,.d (pA o.r.a 0))],[rM q o.L,rA o.L o.M,rS S,.box 52 (eC52 a2)]⟩ ?_
   refine drawK (hP▸mixed) 7 [1,5,7] [some (.ptr 3 0 0 12),some (.i a2.Mark),some (.d (pA o.r.a 0)),some (.d (pA o.r.a 0)),some (.d (pA o.r.a 1)),some (.i ((P a2.Client).2)),some (.b (decide (a2.Mark < ((P a2.Client).2))))] (opG (opS (opG (opG (opG (opG (opG op0 hT) hT) hT) hT) hT) (fun R rest h=>ak_lda0 hT (e:=eO) (he:=nlO) (ty:=113) (dom:=adr o.L) (m:=o.M) 1 (a:=o.r.a) (off:=1) (s:=1) (agg:=false) (dst:=some 50) [.i (P a2.Client).2] (by kernel_rfl) (by kernel_rfl) hmem (by rw [hM1];rfl) rfl (fun _=>rfl) (by kernel_rfl) h)) hT) ?_
   refine goK hT 1 (K22 111110 1) ⟨67,[(1,.d (eL74 t1 a1)),(5,.ptr 3 0 0 0),(7,.d (pA o.r.a 0)),(51,.b (decide (a2.Mark < ((P a2.Client).2))))],[rM q o.L,rA o.L o.M,rS S,.box 52 (eC52 a2)]⟩ ?_
   by_cases c7:a2.Mark < ((P a2.Client).2)
   ·replace H:=iT c7 H
    rw [decide_eq_true c7]
    refine goK hT 5 (K22 11111010 1) ⟨67,[(6,.i 3)],[rM q o.L,rA o.L o.M,rS S,.box 52 (eC52 a2)]⟩ ?_
    obtain rfl:=retC H
    refine ak_ghost ⟨o.L,o.M,S⟩ hI1 ?_
    exact ak_ret hf hX (av:=.i 3) (by kernel_rfl) [0,1,2] (sel_of_eq (by kernel_rfl)) (by decide) (by rw [h0];rfl) (by kernel_rfl) (fun _ h=>all_cons (.obj _) (fun _ h=>all_cons (.obj _) (fun _ h=>all_cons (.obj _) (fun _ h=>all_nil h) h) h) h) (.d (.v _))
   ·replace H:=iF c7 H
    rw [decide_eq_false c7]
    refine goK hT 2 (K22 11111 1) ⟨67,[(1,.d (eL74 t1 a1)),(5,.ptr 3 0 0 0),(7,.d (pA o.r.a 0))],[rM q o.L,rA o.L o.M,rS S,.box 52 (eC52 a2)]⟩ ?_
    refine goK hT 7 (K22 1111110 5) ⟨67,[(1,.d (eL74 t1 a1)),(5,.ptr 3 0 0 0),(7,.d (pA o.r.a 0)),(54,.i a2.Mark),(56,.d (pA o.r.a 1))],[rM q o.L,rA o.L o.M,rS S,.box 52 (eC52 a2)]⟩ ?_
    refine ak_sta hT [1,5,7] (e:=eO) (he:=nlO) (ty:=113) (dom:=adr o.L) (m:=o.M) 1 (a:=o.r.a) (off:=1) (s:=1) (ds:=[.i a2.Mark]) (k':=(K22 1111110 6)) (slv o.r.so (P a2.Client).1.length,a2.Mark) (by kernel_rfl) (by kernel_rfl) hmem (Nat.le_of_ble_eq_true rfl) (by rw [hM1];rfl) (st':=⟨67,[(1,.d (eL74 t1 a1)),(5,.ptr 3 0 0 0),(7,.d (pA o.r.a 0))],[rM q o.L,.obj (arO eO nlO 113 (adr o.L) (upd o.M o.r.a (slv o.r.so (P a2.Client).1.length,a2.Mark))),rS S,.box 52 (eC52 a2)]⟩) (by kernel_rfl) ?_
    have hM2:(upd o.M o.r.a (slv o.r.so (P a2.Client).1.length,a2.Mark)) o.r.a=(slv o.r.so (P a2.Client).1.length,a2.Mark):=by simp [upd]
    refine goK hT 3 (K22 11111110 0) ⟨67,[(1,.d (eL74 t1 a1)),(5,.ptr 3 0 0 0),(7,.d (pA o.r.a 0))],[rM q o.L,.obj (arO eO nlO 113 (adr o.L) (upd o.M o.r.a (slv o.r.so (P a2.Client).1.length,a2.Mark))),rS S,.box 52 (eC52 a2)]⟩ ?_
    obtain ⟨v2,h8,H⟩:=ibC H
    have Jj1:(audit_why.j1 a2 P)=some r→AK X 22 ((K22 1111111 1)) (BackE X (fun g:WhyG=>PInv g.L g.M g.S r.2) (fun g=>[rM q g.L,rA g.L g.M,rS g.S]) (fun _=>.i r.1)) ⟨67,[],[rM q o.L,.obj (arO eO nlO 113 (adr o.L) (upd o.M o.r.a (slv o.r.so (P a2.Client).1.length,a2.Mark))),rS S]⟩:=by
     intro H
     refine goK hT 4 (K22 11111111 1) ⟨67,[(6,.i 0)],[rM q o.L,.obj (arO eO nlO 113 (adr o.L) (upd o.M o.r.a (slv o.r.so (P a2.Client).1.length,a2.Mark))),rS S]⟩ ?_
     obtain rfl:=retC H
     refine ak_ghost ⟨o.L,upd o.M o.r.a (slv o.r.so (P a2.Client).1.length,a2.Mark),S⟩ (by have q:=hI1.mark hor (a2.Mark);rw [hoc] at q;exact q) ?_
     exact ak_ret hf hX (av:=.i 0) (by kernel_rfl) [0,1,2] (sel_of_eq (by kernel_rfl)) (by decide) (by rw [h0];rfl) (by kernel_rfl) (fun _ h=>all_cons (.obj _) (fun _ h=>all_cons (.obj _) (fun _ h=>all_cons (.obj _) (fun _ h=>all_nil h) h) h) h) (.d (.v _))
    refine drawK (hP▸mixed) 10 [1,5,7] [some (.d (eL74 t1 a1)),some (.d (pA o.r.a 0)),some (.ptr 3 0 0 9),some (.i a2.Key),some (.ptr 3 0 0 12),some (.i a2.Mark),some (.d (eG50 v2)),some (.ptr 3 0 0 10),some (.d (eG50 a2.Cell)),some (.b (!((v2.Val == a2.Cell.Val) && (v2.Some == a2.Cell.Some))))] (opG (opG (opG (opS (opG (opG (opG (opG (opG (opG op0 hT) hT) hT) hT) hT) hT) (fun R rest h=>ak_callG0 (avs:=[.d (eL74 t1 a1),.d (pA o.r.a 0),.i a2.Key,.i a2.Mark]) (dst:=some 63) [] hP enters_42 (audit_sees_l1.says (t0:=t1) a1 (⟨(P a2.Client).1,a2.Mark⟩:audit_done) a2.Key a2.Mark h8) (by kernel_rfl) (hands_none _) (fun C' vs hR hrows hv=>look_args (e:=api_Mut.e) (z:=api_Mut.z) (he:=api_Mut.nl) (kk:=7) (ty:=48) (tq:=113) hR (hands_none _) 1 2 (by rw [hrows];rfl) (by simp) (by rw [hrows];rfl) (by simp) hmem hM2 hz hin hv) (by kernel_rfl) h)) hT) hT) hT) ?_
    refine goK hT 1 (K22 11111110 1) ⟨67,[(66,.b (!((v2.Val == a2.Cell.Val) && (v2.Some == a2.Cell.Some))))],[rM q o.L,.obj (arO eO nlO 113 (adr o.L) (upd o.M o.r.a (slv o.r.so (P a2.Client).1.length,a2.Mark))),rS S,.box 52 (eC52 a2)]⟩ ?_
    by_cases c9:v2.Val=a2.Cell.Val
    ·replace H:=iT c9 H
     rw [eqT c9]
     by_cases c10:v2.Some=true
     ·replace H:=iT c10 H
      rw [c10]
      by_cases c11:a2.Cell.Some=true
      ·replace H:=iT c11 H
       rw [c11]
       refine goCut hT 2 (K22 1111111 1) [0,1,2] ⟨67,[],[rM q o.L,.obj (arO eO nlO 113 (adr o.L) (upd o.M o.r.a (slv o.r.so (P a2.Client).1.length,a2.Mark))),rS S]⟩ h0 ?_
       exact Jj1 H
      ·replace H:=iF c11 H
       rw [boF c11]
       refine goK hT 5 (K22 1111111010 1) ⟨67,[(6,.i 4)],[rM q o.L,.obj (arO eO nlO 113 (adr o.L) (upd o.M o.r.a (slv o.r.so (P a2.Client).1.length,a2.Mark))),rS S,.box 52 (eC52 a2)]⟩ ?_
       obtain rfl:=retC H
       refine ak_ghost ⟨o.L,upd o.M o.r.a (slv o.r.so (P a2.Client).1.length,a2.Mark),S⟩ (by have q:=hI1.mark hor (a2.Mark);rw [hoc] at q;exact q) ?_
       exact ak_ret hf hX (av:=.i 4) (by kernel_rfl) [0,1,2] (sel_of_eq (by kernel_rfl)) (by decide) (by rw [h0];rfl) (by kernel_rfl) (fun _ h=>all_cons (.obj _) (fun _ h=>all_cons (.obj _) (fun _ h=>all_cons (.obj _) (fun _ h=>all_nil h) h) h) h) (.d (.v _))
     ·replace H:=iF c10 H
      rw [boF c10]
      by_cases c12:a2.Cell.Some=true
      ·replace H:=iT c12 H
       rw [c12]
       refine goK hT 5 (K22 1111111010 1) ⟨67,[(6,.i 4)],[rM q o.L,.obj (arO eO nlO 113 (adr o.L) (upd o.M o.r.a (slv o.r.so (P a2.Client).1.length,a2.Mark))),rS S,.box 52 (eC52 a2)]⟩ ?_
       obtain rfl:=retC H
       refine ak_ghost ⟨o.L,upd o.M o.r.a (slv o.r.so (P a2.Client).1.length,a2.Mark),S⟩ (by have q:=hI1.mark hor (a2.Mark);rw [hoc] at q;exact q) ?_
       exact ak_ret hf hX (av:=.i 4) (by kernel_rfl) [0,1,2] (sel_of_eq (by kernel_rfl)) (by decide) (by rw [h0];rfl) (by kernel_rfl) (fun _ h=>all_cons (.obj _) (fun _ h=>all_cons (.obj _) (fun _ h=>all_cons (.obj _) (fun _ h=>all_nil h) h) h) h) (.d (.v _))
      ·replace H:=iF c12 H
       rw [boF c12]
       refine goCut hT 2 (K22 1111111 1) [0,1,2] ⟨67,[],[rM q o.L,.obj (arO eO nlO 113 (adr o.L) (upd o.M o.r.a (slv o.r.so (P a2.Client).1.length,a2.Mark))),rS S]⟩ h0 ?_
       exact Jj1 H
    ·replace H:=iF c9 H
     rw [eqF c9]
     by_cases c13:v2.Some=true
     ·replace H:=iT c13 H
      rw [c13]
      by_cases c14:a2.Cell.Some=true
      ·replace H:=iT c14 H
       rw [c14]
       refine goK hT 5 (K22 1111111010 1) ⟨67,[(6,.i 4)],[rM q o.L,.obj (arO eO nlO 113 (adr o.L) (upd o.M o.r.a (slv o.r.so (P a2.Client).1.length,a2.Mark))),rS S,.box 52 (eC52 a2)]⟩ ?_
       obtain rfl:=retC H
       refine ak_ghost ⟨o.L,upd o.M o.r.a (slv o.r.so (P a2.Client).1.length,a2.Mark),S⟩ (by have q:=hI1.mark hor (a2.Mark);rw [hoc] at q;exact q) ?_
       exact ak_ret hf hX (av:=.i 4) (by kernel_rfl) [0,1,2] (sel_of_eq (by kernel_rfl)) (by decide) (by rw [h0];rfl) (by kernel_rfl) (fun _ h=>all_cons (.obj _) (fun _ h=>all_cons (.obj _) (fun _ h=>all_cons (.obj _) (fun _ h=>all_nil h) h) h) h) (.d (.v _))
      ·replace H:=iF c14 H
       rw [boF c14]
       refine goK hT 5 (K22 1111111010 1) ⟨67,[(6,.i 4)],[rM q o.L,.obj (arO eO nlO 113 (adr o.L) (upd o.M o.r.a (slv o.r.so (P a2.Client).1.length,a2.Mark))),rS S,.box 52 (eC52 a2)]⟩ ?_
       obtain rfl:=retC H
       refine ak_ghost ⟨o.L,upd o.M o.r.a (slv o.r.so (P a2.Client).1.length,a2.Mark),S⟩ (by have q:=hI1.mark hor (a2.Mark);rw [hoc] at q;exact q) ?_
       exact ak_ret hf hX (av:=.i 4) (by kernel_rfl) [0,1,2] (sel_of_eq (by kernel_rfl)) (by decide) (by rw [h0];rfl) (by kernel_rfl) (fun _ h=>all_cons (.obj _) (fun _ h=>all_cons (.obj _) (fun _ h=>all_cons (.obj _) (fun _ h=>all_nil h) h) h) h) (.d (.v _))
     ·replace H:=iF c13 H
      rw [boF c13]
      by_cases c15:a2.Cell.Some=true
      ·replace H:=iT c15 H
       rw [c15]
       refine goK hT 5 (K22 1111111010 1) ⟨67,[(6,.i 4)],[rM q o.L,.obj (arO eO nlO 113 (adr o.L) (upd o.M o.r.a (slv o.r.so (P a2.Client).1.length,a2.Mark))),rS S,.box 52 (eC52 a2)]⟩ ?_
       obtain rfl:=retC H
       refine ak_ghost ⟨o.L,upd o.M o.r.a (slv o.r.so (P a2.Client).1.length,a2.Mark),S⟩ (by have q:=hI1.mark hor (a2.Mark);rw [hoc] at q;exact q) ?_
       exact ak_ret hf hX (av:=.i 4) (by kernel_rfl) [0,1,2] (sel_of_eq (by kernel_rfl)) (by decide) (by rw [h0];rfl) (by kernel_rfl) (fun _ h=>all_cons (.obj _) (fun _ h=>all_cons (.obj _) (fun _ h=>all_cons (.obj _) (fun _ h=>all_nil h) h) h) h) (.d (.v _))
      ·replace H:=iF c15 H
       rw [boF c15]
       refine goK hT 5 (K22 1111111010 1) ⟨67,[(6,.i 4)],[rM q o.L,.obj (arO eO nlO 113 (adr o.L) (upd o.M o.r.a (slv o.r.so (P a2.Client).1.length,a2.Mark))),rS S,.box 52 (eC52 a2)]⟩ ?_
       obtain rfl:=retC H
       refine ak_ghost ⟨o.L,upd o.M o.r.a (slv o.r.so (P a2.Client).1.length,a2.Mark),S⟩ (by have q:=hI1.mark hor (a2.Mark);rw [hoc] at q;exact q) ?_
       exact ak_ret hf hX (av:=.i 4) (by kernel_rfl) [0,1,2] (sel_of_eq (by kernel_rfl)) (by decide) (by rw [h0];rfl) (by kernel_rfl) (fun _ h=>all_cons (.obj _) (fun _ h=>all_cons (.obj _) (fun _ h=>all_cons (.obj _) (fun _ h=>all_nil h) h) h) h) (.d (.v _))
 ·replace H:=iF c2 H
  rw [boF c2]
  refine goK hT 5 (K22 11010 1) ⟨67,[(6,.i 1)],[rM q L,rA L M,rS S,.box 52 (eC52 a2)]⟩ ?_
  obtain rfl:=retC H
  refine ak_ghost ⟨L,M,S⟩ hI ?_
  exact ak_ret hf hX (av:=.i 1) (by kernel_rfl) [0,1,2] (sel_of_eq (by kernel_rfl)) (by decide) (by rw [h0];rfl) (by kernel_rfl) (fun _ h=>all_cons (.obj _) (fun _ h=>all_cons (.obj _) (fun _ h=>all_cons (.obj _) (fun _ h=>all_nil h) h) h) h) (.d (.v _))

theorem audit_Check.says {t0:Bool} {t1:Bool} (a0:List api_Entry) (a1:List api_Event) {r:(List api_Finding) × Int} (H:audit_Check a0 a1=some r):Says Try.prog 8 [] [.d (eL74 t0 a0),.d (eL52 t1 a1)] [eR41 r.1] (.tup [.own 0 2 0 r.1.length,.i r.2]):=by
 refine says_of Try.func8 rfl (nt:=36) rfl (Nat.le_of_ble_eq_true rfl) fun X hP h0 hX=>?_
 have hT:TabOk X.P T:=hP▸tok
 have hf:X.P.funcs[8]? = some Try.f8:=hP▸Try.func8
 refine goK hT 9 (K8 1100 1) ⟨36,[(0,.d (eL74 t0 a0)),(1,.d (eL52 t1 a1)),(11,.d (eL74 t0 a0))],[]⟩ ?_
 obtain ⟨v1,h1,H⟩:=ibC H
 refine ak_callP (avs:=[.d (eL74 t0 a0)]) (dst:=some 12) (k':=(K8 1100 2)) [0,1,12] [] hP enters_12 (audit_Order.says (t0:=t0) a0 h1) (by kernel_rfl) (hands_none _) (.cons (pass_d _) .nil) (st':=⟨36,[(0,.d (eL74 t0 a0)),(1,.d (eL52 t1 a1)),(12,.b v1)],[]⟩) (by kernel_rfl) ?_
 refine goK hT 2 (K8 110 1) ⟨36,[(0,.d (eL74 t0 a0)),(1,.d (eL52 t1 a1)),(13,.b (!v1))],[]⟩ ?_
 by_cases c2:v1=true
 ·replace H:=iT c2 H
  rw [c2]
  refine goK hT 2 (K8 11 1) ⟨36,[(0,.d (eL74 t0 a0)),(1,.d (eL52 t1 a1))],[]⟩ ?_
  refine goK hT 2 (K8 1110 0) ⟨36,[(0,.d (eL74 t0 a0)),(1,.d (eL52 t1 a1))],[]⟩ ?_
  refine ak_makeMap (dst:=some 14) (k':=(K8 1110 1)) (by kernel_rfl) (st':=fun q=>⟨36,[(14,.d (.v (.map (some q)))),(0,.d (eL74 t0 a0)),(1,.d (eL52 t1 a1))],[.obj (mpO q [])]⟩) (fun q=>by kernel_rfl) fun q=>?_
  refine ak_arena eO nlO 113 (fun _=>(Value.slice none 0 0,(0:Int))) ?_
  refine ak_slices api_Mut.e api_Mut.z api_Mut.nl 7 48 ?_
  obtain ⟨gL,hgL⟩:∃ x,x=([]:List Rec):=⟨_,rfl⟩
  obtain ⟨gM,hgM⟩:∃ x,x=(fun _=>(Value.slice none 0 0,0):Nat→Value × Int):=⟨_,rfl⟩
  obtain ⟨gS,hgS⟩:∃ x,x=([]:List (Nat × Nat × List api_Mut)):=⟨_,rfl⟩
  have gI:PInv gL gM gS (fun _=>([],0):PT):=by rw [hgL,hgM,hgS];exact PInv.nil
  refine ak_keep [0,1,14] (st':=⟨36,[(0,.d (eL74 t0 a0)),(1,.d (eL52 t1 a1)),(14,.d (.v (.map (some q))))],[rM q gL,rA gL gM,rS gS]⟩) (by rw [hgL,hgM,hgS];kernel_rfl) ?_
  refine goK hT 15 (K8 11111010 0) ⟨36,[(0,.d (eL74 t0 a0)),(6,.d (.v (.map (some q)))),(7,.ns),(15,.d (eL52 t1 a1)),(16,.i (a1.length:Int)),(17,.i 0)],[rM q gL,rA gL gM,rS gS]⟩ ?_
  refine ak_nilS [0,6,7,15,16,17] 7 2 41 (vec api_Finding.e api_Finding.z []) (st':=⟨36,[(0,.d (eL74 t0 a0)),(6,.d (.v (.map (some q)))),(7,.own 3 2 0 0),(15,.d (eL52 t1 a1)),(16,.i (a1.length:Int)),(17,.i 0)],[rM q gL,rA gL gM,rS gS,eR41 ([]:List api_Finding)]⟩) (by kernel_rfl) (by kernel_rfl) ?_
  have L:∀ n,(∀ (x1_17:Int) (x1_r0:PT) (x1_r3:List api_Finding) (gL:List Rec) (gM:Nat→Value × Int) (gS:List (Nat × Nat × List api_Mut)) (gI:PInv gL gM gS x1_r0),iter (audit_Check.step a0 a1) n (.l1 x1_17 x1_r0 x1_r3)=some r→AK X 8 ((K8 11111010 0)) (Back X [eR41 r.1] (.tup [.own 0 2 0 r.1.length,.i r.2])) ⟨36,[(0,.d (eL74 t0 a0)),(6,.d (.v (.map (some q)))),(7,.own 3 2 0 x1_r3.length),(15,.d (eL52 t1 a1)),(16,.i (a1.length:Int)),(17,.i x1_17)],[rM q gL,rA gL gM,rS gS,eR41 x1_r3]⟩):=by
   intro n
   induction n with
   | zero=>exact fun _ _ _ _ _ _ _ H=>iter0 H
   | succ n ih=>
    ·intro x1_17 x1_r0 x1_r3 gL gM gS gI H
     refine goK hT 5 (K8 1111101001 0) ⟨36,[(0,.d (eL74 t0 a0)),(6,.d (.v (.map (some q)))),(7,.own 3 2 0 x1_r3.length),(15,.d (eL52 t1 a1)),(16,.i (a1.length:Int)),(17,.i x1_17),(18,.b (decide (x1_17 < (a1.length:Int))))],[rM q gL,rA gL gM,rS gS,eR41 x1_r3]⟩ ?_
     by_cases c3:x1_17 < (a1.length:Int)
     ·replace H:=sT c3 H
      rw [decide_eq_true c3]
      refine goK hT 2 (K8 1111101001 1) ⟨36,[(0,.d (eL74 t0 a0)),(6,.d (.v (.map (some q)))),(7,.own 3 2 0 x1_r3.length),(15,.d (eL52 t1 a1)),(16,.i (a1.length:Int)),(17,.i x1_17)],[rM q gL,rA gL gM,rS gS,eR41 x1_r3]⟩ ?_
      refine goK hT 5 (K8 11111010011000 1) ⟨36,[(0,.d (eL74 t0 a0)),(6,.d (.v (.map (some q)))),(7,.own 3 2 0 x1_r3.length),(15,.d (eL52 t1 a1)),(16,.i (a1.length:Int)),(17,.i x1_17),(19,.i x1_17)],[rM q gL,rA gL gM,rS gS,eR41 x1_r3]⟩ ?_
      obtain ⟨h4,H⟩:=sC H
      refine ak_idx hT [0,6,7,15,16,17,19,20] (i:=x1_17) (n:=(a1.length:Int)) h4.1 h4.2 (k':=(K8 11111010011000 2)) (st':=⟨36,[(0,.d (eL74 t0 a0)),(6,.d (.v (.map (some q)))),(7,.own 3 2 0 x1_r3.length),(15,.d (eL52 t1 a1)),(16,.i (a1.length:Int)),(17,.i x1_17),(19,.i x1_17),(20,.d (eP52 t1 a1 x1_17.toNat 0))],[rM q gL,rA gL gM,rS gS,eR41 x1_r3]⟩) (by kernel_rfl) ?_
      refine goK hT 10 (K8 111110100110010 3) ⟨36,[(0,.d (eL74 t0 a0)),(6,.d (.v (.map (some q)))),(7,.own 3 2 0 x1_r3.length),(8,.i x1_17),(15,.d (eL52 t1 a1)),(16,.i (a1.length:Int)),(17,.i x1_17),(22,.d (.v (.map (some q)))),(23,.d (eL74 t0 a0)),(24,.d (eG52 (a1.getD x1_17.toNat api_Event.z)))],[rM q gL,rA gL gM,rS gS,eR41 x1_r3,.box 52 (eC52 (a1.getD x1_17.toNat api_Event.z))]⟩ ?_
      obtain ⟨v2,h5,H⟩:=sbC H
      refine ak_callE (avs:=[.d (.v (.map (some q))),.d (eL74 t0 a0),.d (eG52 (a1.getD x1_17.toNat api_Event.z))]) (dst:=some 25) (k':=(K8 111110100110010 4)) [0,1,2] hP enters_22 (audit_why.says (t1:=t0) q gL gM gS x1_r0 gI a0 (a1.getD x1_17.toNat api_Event.z) h5) (by kernel_rfl) (hands_three rfl rfl rfl (by decide)) (.cons (pass_d _) (.cons (pass_d _) (.cons (pass_d _) .nil))) (st':=fun g3=>⟨36,[(25,.i v2.1),(0,.d (eL74 t0 a0)),(6,.d (.v (.map (some q)))),(7,.own 3 2 0 x1_r3.length),(8,.i x1_17),(15,.d (eL52 t1 a1)),(16,.i (a1.length:Int)),(17,.i x1_17),(22,.d (.v (.map (some q)))),(23,.d (eL74 t0 a0)),(24,.d (eG52 (a1.getD x1_17.toNat api_Event.z)))],[rM q g3.L,rA g3.L g3.M,rS g3.S,eR41 x1_r3,.box 52 (eC52 (a1.getD x1_17.toNat api_Event.z))]⟩) (fun g3=>by kernel_rfl) fun g3 hg3=>?_
      refine goK hT 7 (K8 111110100110011 1) ⟨36,[(0,.d (eL74 t0 a0)),(6,.d (.v (.map (some q)))),(7,.own 3 2 0 x1_r3.length),(8,.i x1_17),(10,.i v2.1),(15,.d (eL52 t1 a1)),(16,.i (a1.length:Int)),(17,.i x1_17),(27,.b (v2.1 != 0))],[rM q g3.L,rA g3.L g3.M,rS g3.S,eR41 x1_r3,.box 52 (eC52 (a1.getD x1_17.toNat api_Event.z))]⟩ ?_
      have Jj1:∀ (y1_r3:List api_Finding),stk (audit_Check.j1 x1_17 v2 y1_r3) (iter (audit_Check.step a0 a1) n)=some r→AK X 8 ((K8 11111010011 1)) (Back X [eR41 r.1] (.tup [.own 0 2 0 r.1.length,.i r.2])) ⟨36,[(0,.d (eL74 t0 a0)),(6,.d (.v (.map (some q)))),(7,.own 3 2 0 y1_r3.length),(15,.d (eL52 t1 a1)),(16,.i (a1.length:Int)),(17,.i x1_17)],[rM q g3.L,rA g3.L g3.M,rS g3.S,eR41 y1_r3]⟩:=by
       intro y1_r3 H
       refine goCut hT 5 (K8 11111010 0) [0,1,2,3] ⟨36,[(0,.d (eL74 t0 a0)),(6,.d (.v (.map (some q)))),(7,.own 3 2 0 y1_r3.length),(15,.d (eL52 t1 a1)),(16,.i (a1.length:Int)),(17,.i (IntKind.wrap .i64 (x1_17+1)))],[rM q g3.L,rA g3.L g3.M,rS g3.S,eR41 y1_r3]⟩ h0 ?_
       exact ih (IntKind.wrap .i64 (x1_17+1)) v2.2 y1_r3 g3.L g3.M g3.S hg3 H
      by_cases c6:v2.1=0
      ·replace H:=sT c6 H
       rw [neF c6]
       refine goCut hT 3 (K8 11111010011 1) [0,1,2,3] ⟨36,[(0,.d (eL74 t0 a0)),(6,.d (.v (.map (some q)))),(7,.own 3 2 0 x1_r3.length),(15,.d (eL52 t1 a1)),(16,.i (a1.length:Int)),(17,.i x1_17)],[rM q g3.L,rA g3.L g3.M,rS g3.S,eR41 x1_r3]⟩ h0 ?_
       exact Jj1 x1_r3 H
      ·replace H:=sF c6 H
       rw [neT c6]
       refine goK hT 7 (K8 11111010011001110 5) ⟨36,[(0,.d (eL74 t0 a0)),(6,.d (.v (.map (some q)))),(15,.d (eL52 t1 a1)),(16,.i (a1.length:Int)),(17,.i x1_17),(28,.own 3 2 0 x1_r3.length),(32,.own 5 2 0 1)],[rM q g3.L,rA g3.L g3.M,rS g3.S,eR41 x1_r3,.box 52 (eC52 (a1.getD x1_17.toNat api_Event.z)),.flat false 2 41 1 (fun j=>[[.i x1_17,.i v2.1]].getD j [])]⟩ ?_
       obtain ⟨h7,H⟩:=sC H
       refine ak_append1 (id:=3) (kk:=2) (by':=16) (t:=26) (e:=41) (z:=[.int .i64 0,.int .i64 0]) (dst:=some 33) (id2:=5) (e2:=41) (fz:=false) (k':=(K8 11111010011001110 6)) hT api_Finding.e api_Finding.z x1_r3 (⟨x1_17,v2.1⟩:api_Finding) [0,6,15,16,17,33] (by kernel_rfl) (by kernel_rfl) (by kernel_rfl) (by kernel_rfl) (by kernel_rfl) (by kernel_rfl) (by kernel_rfl) h7 (by omega) (st':=⟨36,[(0,.d (eL74 t0 a0)),(6,.d (.v (.map (some q)))),(15,.d (eL52 t1 a1)),(16,.i (a1.length:Int)),(17,.i x1_17),(33,.own 6 2 0 ((x1_r3 ++ [(⟨x1_17,v2.1⟩:api_Finding)]).length))],[rM q g3.L,rA g3.L g3.M,rS g3.S,.gone,.box 52 (eC52 (a1.getD x1_17.toNat api_Event.z)),.flat false 2 41 1 (fun j=>[[.i x1_17,.i v2.1]].getD j []),eR41 (x1_r3 ++ [(⟨x1_17,v2.1⟩:api_Finding)])]⟩) (by kernel_rfl) ?_
       refine goCut hT 3 (K8 11111010011 1) [0,1,2,6] ⟨36,[(0,.d (eL74 t0 a0)),(6,.d (.v (.map (some q)))),(7,.own 3 2 0 (x1_r3 ++ [(⟨x1_17,v2.1⟩:api_Finding)]).length),(15,.d (eL52 t1 a1)),(16,.i (a1.length:Int)),(17,.i x1_17)],[rM q g3.L,rA g3.L g3.M,rS g3.S,eR41 (x1_r3 ++ [(⟨x1_17,v2.1⟩:api_Finding)])]⟩ h0 ?_
       exact Jj1 (x1_r3 ++ [(⟨x1_17,v2.1⟩:api_Finding)]) H
     ·replace H:=sF c3 H
      rw [decide_eq_false c3]
      refine goK hT 8 (K8 111111 1) ⟨36,[(4,.own 3 2 0 x1_r3.length),(5,.i 0)],[rM q gL,rA gL gM,rS gS,eR41 x1_r3]⟩ ?_
      obtain rfl:=retC H
      exact retK hf hX h0 (.tup [.own 3 2 0 x1_r3.length,.i 0]) [3] (fun _ h=>all_cons (nr_vec api_Finding.nl) (fun _ h=>all_nil h) h) (.tup (.cons (.own _ _ _ _) (.cons (.d (.v _)) .nil)))
  refine cutK [0,1,2,3] ⟨36,[(0,.d (eL74 t0 a0)),(6,.d (.v (.map (some q)))),(7,.own 3 2 0 ([]:List api_Finding).length),(15,.d (eL52 t1 a1)),(16,.i (a1.length:Int)),(17,.i 0)],[rM q gL,rA gL gM,rS gS,eR41 ([]:List api_Finding)]⟩ h0 ?_
  obtain ⟨n,H⟩:=loopC H
  exact (L n) 0 (fun _=>([],0):PT) ([]:List api_Finding) gL gM gS gI H
 ·replace H:=iF c2 H
  rw [boF c2]
  refine goK hT 6 (K8 11010 1) ⟨36,[(4,.ns),(5,.i 1)],[]⟩ ?_
  refine ak_nilS [4,5] 4 2 41 (vec api_Finding.e api_Finding.z []) (st':=⟨36,[(4,.own 0 2 0 0),(5,.i 1)],[eR41 ([]:List api_Finding)]⟩) (by kernel_rfl) (by kernel_rfl) ?_
  obtain rfl:=retC H
  exact retK hf hX h0 (.tup [.own 0 2 0 0,.i 1]) [0] (fun _ h=>all_cons (nr_vec api_Finding.nl) (fun _ h=>all_nil h) h) (.tup (.cons (.own _ _ _ _) (.cons (.d (.v _)) .nil)))
end Go.SyP
