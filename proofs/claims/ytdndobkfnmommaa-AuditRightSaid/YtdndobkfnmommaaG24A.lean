/- What a client did so far: the function 'of' of the map, by hand. -/
import Derived.Test.YtdndobkfnmommaaG24D
import Derived.Test.YtdndobkfnmommaaG24WP
set_option linter.unusedVariables false
set_option linter.unusedSimpArgs false
namespace Go.SyP
open Go Go.Sy Go.Proofs

noncomputable abbrev K41 (n i:Nat):List Item:=stackAt (Try.f41.body.getD .skip) (dgs 40 n [] ++ [i]) []
theorem mapTy:MapTy Try.prog 78 3 111:=⟨Try.underlying78,Try.underlying3,fun w=>by
 have:(zeroValue 111).run Try.prog w=.ok (.pointer none) w:=by kernel_rfl
 exact this⟩

abbrev rM (q:Nat) (L:List Rec):Row:=.obj (mpO q (mpK L))
abbrev rA (L:List Rec) (M:Nat→Value × Int):Row:=.obj (arO eO nlO 113 (adr L) M)
abbrev rS (S:List (Nat × Nat × List api_Mut)):Row:=.obj (arS api_Mut.e api_Mut.z api_Mut.nl 7 48 S)

structure OfG where
 L:List Rec
 M:Nat→Value × Int
 r:Rec

theorem of_says (q:Nat) (L:List Rec) (M:Nat→Value × Int) (S:List (Nat × Nat × List api_Mut)) (P:PT) (hI:PInv L M S P) (c:Int):
  SaysE Try.prog 41 [rM q L,rA L M] [.d (.v (.map (some q))),.i c] (fun o:OfG=>PInv o.L o.M S P∧o.r∈o.L∧o.r.c=c) (fun o=>[rM q o.L,rA o.L o.M]) (fun o=>.d (pA o.r.a 0)):=by
 refine saysE_of Try.func41 rfl (nt:=16) rfl (Nat.le_of_ble_eq_true rfl) fun X hP h0 hX=>?_
 have hT:TabOk X.P T:=hP▸tok
 have hf:X.P.funcs[41]? = some Try.f41:=hP▸Try.func41
 have hM:MapTy X.P 78 3 111:=hP▸mapTy
 refine goK hT 9 (K41 1100 2) ⟨16,[(0,.d (.v (.map (some q)))),(1,.i c),(5,.d (.v (.map (some q)))),(6,.i c)],[rM q L,rA L M]⟩ ?_
 cases hl:(mpK L).lookup c with
 | none=>
  have hc:=mpK_none hl
  refine ak_lookup 0 (q:=q) (k':=(K41 1100 3)) (c:=c) (dst:=some 7) (by kernel_rfl) hM (by kernel_rfl) (by rw [hl];rfl) (st':=⟨16,[(7,.np),(0,.d (.v (.map (some q)))),(1,.i c),(5,.d (.v (.map (some q)))),(6,.i c)],[rM q L,rA L M]⟩) (by rw [hl];kernel_rfl) ?_
  refine goK hT 9 (K41 11010 4) ⟨16,[(0,.d (.v (.map (some q)))),(1,.i c),(9,.d (.v (.map (some q)))),(10,.i c),(12,.ptr 2 0 0 0)],[rM q L,rA L M,.box 113 [.ns,.i 0]]⟩ ?_
  refine ak_absorb (e:=eO) (he:=nlO) (dom:=adr L) (m:=M) 2 1 (Value.slice none 0 0,(0:Int)) (by decide) (by kernel_rfl) (by kernel_rfl) fun a ha=>⟨⟨16,[(0,.d (.v (.map (some q)))),(1,.i c),(9,.d (.v (.map (some q)))),(10,.i c),(12,.d (pA a 0))],[rM q L,.obj (arO eO nlO 113 (adr L ++ [a]) (upd M a (Value.slice none 0 0,(0:Int)))),.gone]⟩, ?_,rfl,rfl, ?_⟩
  ·intro j av hj
   simp only [List.lookup_cons] at hj ⊢
   repeat
    split at hj
    ·injection hj with hj
     subst hj
     exact ⟨_,rfl,by first | exact .inl rfl | exact .inr (.inl ⟨0,rfl,rfl⟩)⟩
   simp at hj
  refine ak_mapNew 0 (q:=q) (k':=(K41 11010 5)) (c:=c) (b:=a) (by kernel_rfl) hM (by kernel_rfl) hl (st':=⟨16,[(0,.d (.v (.map (some q)))),(1,.i c),(9,.d (.v (.map (some q)))),(10,.i c),(12,.d (pA a 0))],[.obj (mpO q (mpK L ++ [(c,.pointer (some ⟨a,0,none⟩))])),.obj (arO eO nlO 113 (adr L ++ [a]) (upd M a (Value.slice none 0 0,(0:Int)))),.gone]⟩) rfl ?_
  have e1:mpK L ++ [(c,.pointer (some ⟨a,0,none⟩))]=mpK (L ++ [⟨c,a,none⟩]):=by simp [mpK]
  have e2:adr L ++ [a]=adr (L ++ [⟨c,a,none⟩]):=by simp [adr]
  rw [e1,e2]
  refine goK hT 6 (K41 1110 2) ⟨16,[(13,.d (.v (.map (some q)))),(14,.i c)],[rM q (L ++ [⟨c,a,none⟩]),rA (L ++ [⟨c,a,none⟩]) (upd M a (Value.slice none 0 0,(0:Int))),.gone]⟩ ?_
  have hl2:=mpK_snoc (a:=a) hc
  refine ak_lookup 0 (q:=q) (k':=(K41 1110 3)) (c:=c) (dst:=some 15) (by kernel_rfl) hM (by kernel_rfl) (by rw [hl2];rfl) (st':=⟨16,[(15,.d (pA a 0)),(13,.d (.v (.map (some q)))),(14,.i c)],[rM q (L ++ [⟨c,a,none⟩]),rA (L ++ [⟨c,a,none⟩]) (upd M a (Value.slice none 0 0,(0:Int))),.gone]⟩) (by rw [hl2];kernel_rfl) ?_
  refine goK hT 2 (K41 111 1) ⟨16,[(4,.d (pA a 0))],[rM q (L ++ [⟨c,a,none⟩]),rA (L ++ [⟨c,a,none⟩]) (upd M a (Value.slice none 0 0,(0:Int))),.gone]⟩ ?_
  refine ak_ghost ⟨L ++ [⟨c,a,none⟩],upd M a (Value.slice none 0 0,(0:Int)),⟨c,a,none⟩⟩ ⟨hI.new hc ha,by simp,rfl⟩ ?_
  exact ak_ret hf hX (av:=.d (pA a 0)) (by kernel_rfl) [0,1] (sel_of_eq (by kernel_rfl)) (by decide) (by rw [h0];rfl) (by kernel_rfl) (fun _ h=>all_cons (.obj _) (fun _ h=>all_cons (.obj _) (fun _ h=>all_nil h) h) h) (.d (.v _))
 | some v=>
  obtain ⟨r,hr,hrc,rfl⟩:=mpK_some hl
  refine ak_lookup 0 (q:=q) (k':=(K41 1100 3)) (c:=c) (dst:=some 7) (by kernel_rfl) hM (by kernel_rfl) (by rw [hl];rfl) (st':=⟨16,[(7,.d (pA r.a 0)),(0,.d (.v (.map (some q)))),(1,.i c),(5,.d (.v (.map (some q)))),(6,.i c)],[rM q L,rA L M]⟩) (by rw [hl];kernel_rfl) ?_
  refine goK hT 9 (K41 1110 2) ⟨16,[(13,.d (.v (.map (some q)))),(14,.i c)],[rM q L,rA L M]⟩ ?_
  refine ak_lookup 0 (q:=q) (k':=(K41 1110 3)) (c:=c) (dst:=some 15) (by kernel_rfl) hM (by kernel_rfl) (by rw [hl];rfl) (st':=⟨16,[(15,.d (pA r.a 0)),(13,.d (.v (.map (some q)))),(14,.i c)],[rM q L,rA L M]⟩) (by rw [hl];kernel_rfl) ?_
  refine goK hT 2 (K41 111 1) ⟨16,[(4,.d (pA r.a 0))],[rM q L,rA L M]⟩ ?_
  refine ak_ghost ⟨L,M,r⟩ ⟨hI,hr,hrc⟩ ?_
  exact ak_ret hf hX (av:=.d (pA r.a 0)) (by kernel_rfl) [0,1] (sel_of_eq (by kernel_rfl)) (by decide) (by rw [h0];rfl) (by kernel_rfl) (fun _ h=>all_cons (.obj _) (fun _ h=>all_cons (.obj _) (fun _ h=>all_nil h) h) h) (.d (.v _))
end Go.SyP
