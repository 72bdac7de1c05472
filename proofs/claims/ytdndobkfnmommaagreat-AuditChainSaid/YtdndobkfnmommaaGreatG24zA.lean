/- What a client did so far: the function 'of' of the map, by hand. -/
import Derived.Test.YtdndobkfnmommaaGreatG24zD
import Derived.Test.YtdndobkfnmommaaGreatG24zP
set_option linter.unusedVariables false
set_option linter.unusedSimpArgs false
namespace Go.SyP
open Go Go.Sy Go.Proofs
noncomputable abbrev K77 (n i:Nat):List Item:=Xe (Tryz.f77.body.getD .skip) (dgs 40 n [] ++ [i]) []
theorem Wi9:Qpv Tryz.prog 125 3 167:=⟨Tryz.underlying125,Tryz.underlying3,fun w=>by
 have:(zeroValue 167).run Tryz.prog w=.ok (.pointer none) w:=by kernel_rfl
 exact this⟩
abbrev rM (q:Nat) (L:List Rec):Row:=.obj (mpO q (mpK L))
abbrev rA (L:List Rec) (M:Nat->Value × Int):Row:=.obj (arO eO nlO 171 (adr L) M)
abbrev rS (S:List (Nat × Nat × List Ql)):Row:=.obj (arS Ql.e Ql.z Ql.nl 7 39 S)
structure OfG where
 L:List Rec
 M:Nat->Value × Int
 r:Rec
theorem Whn (q:Nat) (L:List Rec) (M:Nat->Value × Int) (S:List (Nat × Nat × List Ql)) (P:PT) (hI:Qf7 L M S P) (c:Int):
  Qpy Tryz.prog 77 [rM q L,rA L M] [.d (.v (.map (some q))),.i c] (fun o:OfG=>Qf7 o.L o.M S P/\o.r∈o.L/\o.r.c=c) (fun o=>[rM q o.L,rA o.L o.M]) (fun o=>.d (pA o.r.a 0)):=by
 refine Qxd Tryz.func77 rfl (nt:=16) rfl (lb rfl) fun X hP h0 hX=>?_
 have hT:Xo X.P T:=hP▸tok
 have hf:X.P.funcs[77]? = some Tryz.f77:=hP▸Tryz.func77
 have hM:Qpv X.P 125 3 167:=hP▸Wi9
 refine Qh hT 9 (K77 1100 2) ⟨16,[(0,.d (.v (.map (some q)))),(1,.i c),(5,.d (.v (.map (some q)))),(6,.i c)],[rM q L,rA L M]⟩ ?_
 cases hl:(mpK L).lookup c with
 | none=>
  have hc:=Wf1 hl
  refine Ql9 0 (q:=q) (k':=(K77 1100 3)) (c:=c) (dst:=some 7) (by kernel_rfl) hM (by kernel_rfl) (by rw [hl];rfl) (st':=⟨16,[(7,.np),(0,.d (.v (.map (some q)))),(1,.i c),(5,.d (.v (.map (some q)))),(6,.i c)],[rM q L,rA L M]⟩) (by rw [hl];kernel_rfl) ?_
  refine Qh hT 9 (K77 11010 4) ⟨16,[(0,.d (.v (.map (some q)))),(1,.i c),(9,.d (.v (.map (some q)))),(10,.i c),(12,.ptr 2 0 0 0)],[rM q L,rA L M,.box 171 [.ns,.i 0]]⟩ ?_
  refine Wbd (e:=eO) (he:=nlO) (dom:=adr L) (m:=M) 2 1 (Value.slice none 0 0,(0:Int)) (by decide) (by kernel_rfl) (by kernel_rfl) fun a ha=>⟨⟨16,[(0,.d (.v (.map (some q)))),(1,.i c),(9,.d (.v (.map (some q)))),(10,.i c),(12,.d (pA a 0))],[rM q L,.obj (arO eO nlO 171 (adr L ++ [a]) (upd M a (Value.slice none 0 0,(0:Int)))),.gone]⟩, ?_,rfl,rfl, ?_⟩
  ·intro j av hj
   simp only [List.lookup_cons] at hj ⊢
   repeat
    split at hj
    injection hj with hj
    subst hj
    exact ⟨_,rfl,by first | exact .inl rfl | exact .inr (.inl ⟨0,rfl,rfl⟩)⟩
   simp at hj
  refine Wbi 0 (q:=q) (k':=(K77 11010 5)) (c:=c) (b:=a) (by kernel_rfl) hM (by kernel_rfl) hl (st':=⟨16,[(0,.d (.v (.map (some q)))),(1,.i c),(9,.d (.v (.map (some q)))),(10,.i c),(12,.d (pA a 0))],[.obj (mpO q (mpK L ++ [(c,.pointer (some ⟨a,0,none⟩))])),.obj (arO eO nlO 171 (adr L ++ [a]) (upd M a (Value.slice none 0 0,(0:Int)))),.gone]⟩) rfl ?_
  have e1:mpK L ++ [(c,.pointer (some ⟨a,0,none⟩))]=mpK (L ++ [⟨c,a,none⟩]):=by simp [mpK]
  have e2:adr L ++ [a]=adr (L ++ [⟨c,a,none⟩]):=by simp [adr]
  rw [e1,e2]
  refine Qh hT 6 (K77 1110 2) ⟨16,[(13,.d (.v (.map (some q)))),(14,.i c)],[rM q (L ++ [⟨c,a,none⟩]),rA (L ++ [⟨c,a,none⟩]) (upd M a (Value.slice none 0 0,(0:Int))),.gone]⟩ ?_
  have hl2:=Wf2 (a:=a) hc
  refine Ql9 0 (q:=q) (k':=(K77 1110 3)) (c:=c) (dst:=some 15) (by kernel_rfl) hM (by kernel_rfl) (by rw [hl2];rfl) (st':=⟨16,[(15,.d (pA a 0)),(13,.d (.v (.map (some q)))),(14,.i c)],[rM q (L ++ [⟨c,a,none⟩]),rA (L ++ [⟨c,a,none⟩]) (upd M a (Value.slice none 0 0,(0:Int))),.gone]⟩) (by rw [hl2];kernel_rfl) ?_
  refine Qh hT 2 (K77 111 1) ⟨16,[(4,.d (pA a 0))],[rM q (L ++ [⟨c,a,none⟩]),rA (L ++ [⟨c,a,none⟩]) (upd M a (Value.slice none 0 0,(0:Int))),.gone]⟩ ?_
  refine Qe6 ⟨L ++ [⟨c,a,none⟩],upd M a (Value.slice none 0 0,(0:Int)),⟨c,a,none⟩⟩ ⟨hI.new hc ha,by simp,rfl⟩ ?_
  exact Qee hf hX (av:=.d (pA a 0)) (by kernel_rfl) [0,1] (Jh (by kernel_rfl)) (by decide) (by rw [h0];rfl) (by kernel_rfl) (ac (.obj _) (ac (.obj _) an)) (.d (.v _))
 | some v=>
  obtain ⟨r,hr,hrc,rfl⟩:=Wf3 hl
  refine Ql9 0 (q:=q) (k':=(K77 1100 3)) (c:=c) (dst:=some 7) (by kernel_rfl) hM (by kernel_rfl) (by rw [hl];rfl) (st':=⟨16,[(7,.d (pA r.a 0)),(0,.d (.v (.map (some q)))),(1,.i c),(5,.d (.v (.map (some q)))),(6,.i c)],[rM q L,rA L M]⟩) (by rw [hl];kernel_rfl) ?_
  refine Qh hT 9 (K77 1110 2) ⟨16,[(13,.d (.v (.map (some q)))),(14,.i c)],[rM q L,rA L M]⟩ ?_
  refine Ql9 0 (q:=q) (k':=(K77 1110 3)) (c:=c) (dst:=some 15) (by kernel_rfl) hM (by kernel_rfl) (by rw [hl];rfl) (st':=⟨16,[(15,.d (pA r.a 0)),(13,.d (.v (.map (some q)))),(14,.i c)],[rM q L,rA L M]⟩) (by rw [hl];kernel_rfl) ?_
  refine Qh hT 2 (K77 111 1) ⟨16,[(4,.d (pA r.a 0))],[rM q L,rA L M]⟩ ?_
  refine Qe6 ⟨L,M,r⟩ ⟨hI,hr,hrc⟩ ?_
  exact Qee hf hX (av:=.d (pA r.a 0)) (by kernel_rfl) [0,1] (Jh (by kernel_rfl)) (by decide) (by rw [h0];rfl) (by kernel_rfl) (ac (.obj _) (ac (.obj _) an)) (.d (.v _))
end Go.SyP
