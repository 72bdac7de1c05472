/- Sets of keys: making, meeting, lessening (printed of P03). -/
import Derived.Test.YtdhmflhncidjaaaGreatPthzG
import Derived.Test.YtdhmflhncidjaaaGreatGthzW
import Derived.Test.YtdhmflhncidjaaaGreatPthzE
import Derived.Test.YtdhmflhncidjaaaGreatPthzmA
set_option linter.unusedVariables false
set_option linter.unusedSimpArgs false
namespace Go.SyP
open Go Go.Sy Sets
theorem Wl6 (a b:List Qb) (ha:a.length<=5000) (hb:b.length<=5000):∃ r,Qaa a b=some r/\r.map pa=both (a.map pa) (b.map pa):=by
 unfold Qaa
 have inner:∀ (i:Nat) (lo hi:Int) (x:List Qb),x.length<=i * 5000->i < a.length->∃ y,Yy (Qaa.step a b) (.l2 (i:Int) 0 x lo hi)=Yy (Qaa.step a b) (.l1 ((i+1:Nat):Int) y)/\y.map pa=x.map pa ++ (b.map pa).filterMap (fun t=>cut (lo,hi) t):=by
  intro i lo hi x hx hi'
  have key:∀ (m j:Nat) (y:List Qb),j+m=b.length->y.length<=i * 5000+j->∃ y',Yy (Qaa.step a b) (.l2 (i:Int) (j:Int) y lo hi)=Yy (Qaa.step a b) (.l1 ((i+1:Nat):Int) y')/\y'.map pa=y.map pa ++ ((b.drop j).map pa).filterMap (fun t=>cut (lo,hi) t):=by
   intro m
   induction m with
   | zero=>
    intro j y hj hy
    obtain rfl:j=b.length:=by omega
    refine ⟨y, ?_,by simp⟩
    rw [Ya]
    simp [Qaa.step,Qaa.l2,Jq,wr1 hi' (by omega:a.length<=9223372036854775807)]
   | succ m ih=>
    intro j y hj hy
    have hjl:j < b.length:=by omega
    have Qay:(0:Int)<=(j:Int)/\(j:Int) < (b.length:Int):=by omega
    have hd:(b.drop j).map pa=pa (b.getD (j:Int).toNat Qb.z) :: (b.drop (j+1)).map pa:=by
     rw [Qmo (z:=Qb.z) hjl];rfl
    rw [Ya]
    simp only [Qaa.step,Qaa.l2,Qay.2,if_true,Qay,and_self]
    rw [hd,List.filterMap_cons]
    generalize b.getD (j:Int).toNat Qb.z=T
    have hmm:Qb6 lo T.Lo=max lo T.Lo/\Qhd hi T.Hi=min hi T.Hi:=by
     unfold Qb6 Qhd
     constructor
     ·split<;>omega
     split<;>omega
    rw [hmm.1,hmm.2]
    have hcut:cut (lo,hi) (pa T)=if max lo T.Lo < min hi T.Hi then some (max lo T.Lo,min hi T.Hi) else none:=rfl
    rw [hcut]
    by_cases hc:max lo T.Lo < min hi T.Hi
    ·have hbnd:(y.length+1) * 16<=140737488355328:=by
      have:i * 5000<=5000 * 5000:=Nat.mul_le_mul_right _ (by omega)
      omega
     simp only [hc,if_true,hbnd,Qaa.j1,Jq,wr1 hjl (by omega:b.length<=9223372036854775807)]
     obtain ⟨y',h1,h2⟩:=ih (j+1) (y ++ [⟨max lo T.Lo,min hi T.Hi⟩]) (by omega) (by simp;omega)
     refine ⟨y',h1, ?_⟩
     rw [h2]
     simp [pa]
    simp only [hc,if_false,Qaa.j1,Jq,wr1 hjl (by omega:b.length<=9223372036854775807)]
    exact ih (j+1) y (by omega) (by omega)
  have h:=key b.length 0 x (Nat.zero_add _) (by rw [Nat.add_zero];exact hx)
  rw [List.drop_zero] at h
  exact h
 have outer:∀ (m i:Nat) (x:List Qb),i+m=a.length->x.length<=i * 5000->∃ r,Yy (Qaa.step a b) (.l1 (i:Int) x)=some r/\r.map pa=x.map pa ++ both ((a.drop i).map pa) (b.map pa):=by
  intro m
  induction m with
  | zero=>
   intro i x hi hx
   obtain rfl:i=a.length:=by omega
   refine ⟨x, ?_,by simp [both]⟩
   rw [Ya]
   simp [Qaa.step,Qaa.l1,Jq]
  | succ m ih=>
   intro i x hi hx
   have hil:i < a.length:=by omega
   have Qay:(0:Int)<=(i:Int)/\(i:Int) < (a.length:Int):=by omega
   have hd:(a.drop i).map pa=pa (a.getD (i:Int).toNat Qb.z) :: (a.drop (i+1)).map pa:=by
    rw [Qmo (z:=Qb.z) hil];rfl
   rw [Ya]
   simp only [Qaa.step,Qaa.l1,Qay.2,if_true,Qay,and_self,Jq]
   obtain ⟨y,h1,h2⟩:=inner i (a.getD (i:Int).toNat Qb.z).Lo (a.getD (i:Int).toNat Qb.z).Hi x hx hil
   have hyl:y.length<=(i+1) * 5000:=by
    have e:y.length=(y.map pa).length:=by simp
    rw [e,h2,List.length_append,Nat.add_mul]
    have:=List.length_filterMap_le (fun t=>cut ((a.getD (i:Int).toNat Qb.z).Lo,(a.getD (i:Int).toNat Qb.z).Hi) t) (b.map pa)
    simp only [List.length_map] at this ⊢
    omega
   obtain ⟨r,h3,h4⟩:=ih (i+1) y (by omega) hyl
   refine ⟨r,by rw [<- h3];exact h1, ?_⟩
   rw [h4,h2,hd]
   simp [both,pa,List.append_assoc]
 obtain ⟨r,h1,h2⟩:=outer a.length 0 [] (by omega) (by simp)
 exact ⟨r,h1,by simpa using h2⟩
def Qrd (a:List Qb):Prop:=∀ x∈a,Ok (pa x)
def Qp3 (a:List Qb):Prop:=Canon (a.map pa)/\a.length<=64
def Res (m:Int->Prop) (o:Option (List Qb × Int)):Prop:=∃ L:List Qb,Canon (L.map pa)/\(∀ k,mem (L.map pa) k↔m k)/\o=some (if 64 < L.length then ([],2) else (L,0))
theorem Wii (a:List Qb):(Ja Qb.z Yq a).Pairwise fun x y=>x.Lo<=y.Lo:=
 (Qrb Qb.z Qkl a).imp fun {x y} h=>by
  rw [Qlh] at h
  simp at h
  exact h
theorem Whs (a:List Qb) (ha:a.length<=5000) (hg:Qrd a):Res (fun k=>mem (a.map pa) k) (Yy (Qz.step a) (.l1 0 [])):=by
 have hp:=Qpm Qb.z Qkl a
 have hso:=Wii a
 have Qie:∀ k,mem ((Ja Qb.z Yq a).map pa) k↔mem (a.map pa) k:=fun k=>Wkf (hp.map pa)
 have Jj:∀ x∈Ja Qb.z Yq a,Ok (pa x):=fun x hx=>hg x (hp.mem_iff.1 hx)
 have hlen:(Ja Qb.z Yq a).length<=5000:=by rw [hp.length_eq];exact ha
 unfold Res
 obtain ⟨r,h1,L,h2,h3,h4⟩:=Qd7 (step:=Qz.step a) (n:=(Ja Qb.z Yq a).length) (fun i (x:List Qb)=>Qz.S.l1 (i:Int) x)
  (fun i x=>Canon (x.map pa)/\(∀ k,mem (x.map pa) k↔mem (((Ja Qb.z Yq a).take i).map pa) k)/\(∀ y∈x,∀ z∈(Ja Qb.z Yq a).drop i,y.Lo<=z.Lo)/\x.length<=i)
  (fun r=>∃ L:List Qb,Canon (L.map pa)/\(∀ k,mem (L.map pa) k↔mem (a.map pa) k)/\r=if 64 < L.length then ([],2) else (L,0)) (by
   rintro x ⟨h1,h2,_,_⟩
   rw [Qe7 (Nat.le_refl _)] at h2
   simp only [Qz.step,Qz.l1]
   rw [if_neg (by omega)]
   unfold bnd Qet
   by_cases h64:64 < x.length
   ·rw [if_pos (by omega)]
    exact ⟨_,rfl,x,h1,fun k=>(h2 k).trans (Qie k),by rw [if_pos h64]⟩
   ·rw [if_neg (by omega)]
    exact ⟨_,rfl,x,h1,fun k=>(h2 k).trans (Qie k),by rw [if_neg h64]⟩) (by
   rintro i x hi ⟨h1,h2,h3,h4⟩
   left
   have hd:=Qmo (l:=Ja Qb.z Yq a) (z:=Qb.z) hi
   have ht:=Qfo (l:=Ja Qb.z Yq a) (z:=Qb.z) hi
   have hs1:((Ja Qb.z Yq a).drop i).Pairwise fun x y=>x.Lo<=y.Lo:=hso.sublist (List.drop_sublist ..)
   have hox:Ok (pa ((Ja Qb.z Yq a).getD (i:Int).toNat Qb.z)):=Jj _ (List.mem_of_mem_drop (by rw [hd];exact List.mem_cons_self ..))
   simp only [Qz.step,Qz.l1]
   rw [if_pos (by omega),if_pos (by omega)]
   unfold Qz.j1
   rw [hd] at h3 hs1
   generalize (Ja Qb.z Yq a).getD (i:Int).toNat Qb.z=S at hd ht hs1 hox h3 ⊢
   have hS:=(List.pairwise_cons.1 hs1).1
   rw [wr1 hi (by omega)]
   have hox':=hox
   unfold Sets.Ok pa at hox'
   simp only at hox'
   have app:(∀ y∈x.map pa,y.2 < S.Lo)->∃ y,(some (.inl (.l1 ((i+1:Nat):Int) (x ++ [S]))):Option (Qz.S ⊕ (List Qb × Int)))=some (.inl (.l1 ((i+1:Nat):Int) y))/\Canon (y.map pa)/\(∀ k,mem (y.map pa) k↔mem (((Ja Qb.z Yq a).take (i+1)).map pa) k)/\(∀ y'∈y,∀ z∈(Ja Qb.z Yq a).drop (i+1),y'.Lo<=z.Lo)/\y.length<=i+1:=by
    intro hlast
    refine ⟨_,rfl, ?_,fun k=>?_,fun y' hy' z hz=>?_,by simp;omega⟩
    ·rw [List.map_append]
     exact Qgr.2 ⟨h1,hox,hlast⟩
    ·rw [ht,List.map_append,List.map_append,mem_append,mem_append,h2 k]
    rcases List.mem_append.1 hy' with hy' | hy'
    ·exact h3 y' hy' z (List.mem_cons_of_mem _ hz)
    simp at hy';subst hy';exact hS z hz
   rcases List.eq_nil_or_concat x with hx | ⟨o,Y,hx⟩
   ·subst hx
    rw [if_neg (by decide),if_neg (by decide),if_pos (by simp)]
    exact app (by simp)
   subst hx
   rw [List.concat_eq_append] at *
   have h4':o.length+1<=i:=by simpa using h4
   have hw:IntKind.wrap .i64 (((o ++ [Y]).length:Int) - 1)=(o.length:Int):=by
    rw [wr (by simp;omega)];simp
   rw [hw,if_pos (by omega),if_pos (by simp;omega)]
   have Qyx:(o ++ [Y]).getD (o.length:Int).toNat Qb.z=Y:=by simp
   rw [Qyx]
   have hmap:(o ++ [Y]).map pa=o.map pa ++ [pa Y]:=by rw [List.map_append];rfl
   by_cases hc:S.Lo<=Y.Hi
   ·rw [if_pos (decide_eq_true hc),if_pos (by simp;omega)]
    have Qju:∀ Z,(o ++ [Y]).set (o.length:Int).toNat Z=o ++ [Z]:=fun Z=>by simp
    rw [Qju]
    have hYS:Y.Lo<=S.Lo:=h3 Y (by simp) S (List.mem_cons_self ..)
    rw [hmap] at h1 h2
    have hc2:=Qgr.1 h1
    have hoY:=hc2.2.1
    unfold Sets.Ok pa at hoY
    simp only at hoY
    have hmx:Qb6 Y.Hi S.Hi=max Y.Hi S.Hi:=by unfold Qb6;split<;>omega
    rw [hmx]
    refine ⟨_,rfl, ?_,fun k=>?_,fun y' hy' z hz=>?_,by simp at h4 ⊢;omega⟩
    ·rw [List.map_append]
     refine Qgr.2 ⟨hc2.1, ?_,hc2.2.2⟩
     unfold Sets.Ok pa
     simp only
     omega
    ·rw [ht,List.map_append,List.map_append,mem_append,mem_append,<- h2 k,mem_append]
     have e:mem (List.map pa [(⟨Y.Lo,max Y.Hi S.Hi⟩:Qb)]) k↔mem [pa Y] k\/mem (List.map pa [S]) k:=by
      simp only [List.map_cons,List.map_nil,mem_cons,Qrs,or_false,pa]
      omega
     rw [e,or_assoc]
    rcases List.mem_append.1 hy' with hy' | hy'
    ·exact h3 y' (List.mem_append_left _ hy') z (List.mem_cons_of_mem _ hz)
    simp at hy';subst hy';exact h3 Y (by simp) z (List.mem_cons_of_mem _ hz)
   rw [if_neg (by simpa using hc),if_pos (by omega)]
   refine app fun y hy=>?_
   rw [hmap] at h1 hy
   have:=Qtx h1 y hy
   simp only [pa] at this
   omega) 0 [] (Nat.zero_le _) ⟨Canon.nil,fun k=>by simp,fun y hy=>by simp at hy,by simp⟩
 refine ⟨L,h2,h3, ?_⟩
 rw [<- h4]
 exact h1
theorem Wbq (a:List Qb):(a.any fun z=>Qg4 z)=true↔¬ Qrd a:=by
 simp only [List.any_eq_true,Qg4,Qjj,Qrd]
 constructor
 ·rintro ⟨x,hx,h⟩ hg
  rw [decide_eq_true (hg x hx)] at h
  cases h
 intro h
 apply Classical.byContradiction
 intro hn
 refine h fun x hx=>Classical.byContradiction fun ho=>hn ⟨x,hx, ?_⟩
 rw [decide_eq_false ho]
 rfl
theorem Wnf {a:List Qb} (ha:a.length<=5000) (h:¬ Qrd a):Qz a=some ([],1):=by
 unfold Qz
 rw [contains_eq a (by omega),Option.bind_some,if_pos ((Wbq a).2 h)]
theorem Qoi {a:List Qb} (ha:a.length<=5000) (h:Qrd a):Res (fun k=>mem (a.map pa) k) (Qz a):=by
 unfold Qz
 have e:(a.any fun z=>Qg4 z)=false:=by
  cases hb:a.any fun z=>Qg4 z with
  | false=>rfl
  | true=>exact absurd h ((Wbq a).1 hb)
 rw [contains_eq a (by omega),Option.bind_some,e,if_neg (by decide),if_pos (by omega)]
 exact Whs a ha h
theorem Wia {m:Int->Prop} {o:Option (List Qb × Int)} (h:Res m o):(∃ L,Qp3 L/\(∀ k,mem (L.map pa) k↔m k)/\o=some (L,0))\/o=some ([],2):=by
 obtain ⟨L,h1,h2,h3⟩:=h
 by_cases h64:64 < L.length
 ·rw [if_pos h64] at h3
  exact .inr h3
 rw [if_neg h64] at h3
 exact .inl ⟨L,⟨h1,by omega⟩,h2,h3⟩
theorem chk (a:List Qb) (ha:a.length<=5000):∃ r,Jf a=some r/\(r=true↔Qp3 a):=by
 have h:=Qpz a (by omega)
 exact h
theorem Wn2 {a:List Qb} (ha:a.length<=5000) (h:Qp3 a):Jf a=some true:=by
 obtain ⟨r,h1,h2⟩:=chk a ha
 rw [h1,h2.2 h]
theorem Wn0 {a:List Qb} (ha:a.length<=5000) (h:¬ Qp3 a):Jf a=some false:=by
 obtain ⟨r,h1,h2⟩:=chk a ha
 cases r with
 | false=>exact h1
 | true=>exact absurd (h2.1 rfl) h
theorem Wae (a b:List Qb) (ha:a.length<=5000) (hb:b.length<=5000):∃ v,Qc0 a b=some v/\(v=true↔Qp3 a/\Qp3 b/\∃ k,mem (a.map pa) k/\mem (b.map pa) k):=by
 unfold Qc0
 by_cases h1:Qp3 a
 ·rw [Wn2 ha h1,Option.bind_some,if_pos rfl]
  by_cases h2:Qp3 b
  ·have l1:=h1.2
   have l2:=h2.2
   rw [Wn2 hb h2,Option.bind_some,if_pos rfl]
   obtain ⟨r,e1,e2⟩:=Wl6 a b (by omega) (by omega)
   rw [e1,Option.bind_some]
   refine ⟨_,rfl, ?_⟩
   have hr:Canon (r.map pa):=by rw [e2];exact h1.1.both h2.1
   simp only [h1,h2,true_and,decide_eq_true_eq]
   constructor
   ·intro h
    cases r with
    | nil=>simp at h
    | cons x r=>
     have ox:=hr.ok (pa x) (by simp)
     unfold Sets.Ok at ox
     refine ⟨(pa x).1,Qzr.1 ?_⟩
     rw [<- e2]
     exact mem_cons.2 (.inl ⟨by omega,by omega⟩)
   rintro ⟨k,hk⟩
   have:=Qzr.2 hk
   rw [<- e2] at this
   cases r with
   | nil=>exact absurd this Qrs
   | cons x r=>simp
  rw [Wn0 hb h2,Option.bind_some,if_neg (by decide)]
  exact ⟨false,rfl,by simp [h2]⟩
 rw [Wn0 ha h1,Option.bind_some,if_neg (by decide)]
 exact ⟨false,rfl,by simp [h1]⟩
end Go.SyP
namespace Go.SyP
open Go Go.Sy Sets
theorem Wjq {α:Type} {l:List α} {i:Nat} {z:α} (h:i < l.length):l.getD i z∈l:=by
 simp [List.getD_eq_getElem?_getD,h]
theorem Qwo:∀ (l m:List Int),l.Nodup->(∀ x∈l,x∈m)->l.length<=m.length
 | [],_,_,_=>by simp
 | x :: l,m,h,hs=>by
  obtain ⟨h1,h2⟩:=List.nodup_cons.1 h
  have hx:=hs x (List.mem_cons_self ..)
  have:=Qwo l (m.erase x) h2 fun y hy=>(List.mem_erase_of_ne (fun e=>h1 (by rw [<- e];exact hy))).2 (hs y (List.mem_cons_of_mem _ hy))
  rw [List.length_erase_of_mem hx] at this
  have:0 < m.length:=List.length_pos_of_mem hx
  simp only [List.length_cons]
  omega
theorem Qwz {m:Qp} (hm:Qxe m) {k:Int} (h:Qig m k=true):0<=k/\k < 4096:=by
 unfold Qig at h
 by_cases k2:m.Kind=2
 ·rw [if_pos k2] at h
  have:=hm.Qzv k2
  simp only [Bool.and_eq_true,decide_eq_true_eq] at h
  unfold Ok pa at this
  omega
 rw [if_neg k2] at h
 cases hl:look m.Pairs k with
 | none=>rw [hl] at h;cases h
 | some v=>
  have:=hm.ok _ (Qm0 hl)
  exact ⟨this.1,this.2.1⟩
theorem Qqz {m:Qp} (h:mOk m=true):∃ T,Qaj m=some T/\SOk T/\∀ k,mem (T.map pa) k↔Qig m k=true:=by
 have hm:=Ql5 h
 have hl:=hm.len
 unfold Qaj
 rw [Qge m (by omega),Option.bind_some,if_pos h]
 by_cases k2:m.Kind=2
 ·rw [if_pos k2]
  refine ⟨_,rfl,Qn6 (hm.Qzv k2),fun k=>?_⟩
  unfold Qig
  rw [if_pos k2]
  simp only [List.map_cons,List.map_nil,mem_cons,Bool.and_eq_true,decide_eq_true_eq]
  constructor
  ·rintro (h | h)
   ·exact h
   exact absurd h Qrs
  exact fun h=>.inl h
 rw [if_neg k2]
 let S:List Qb:=m.Pairs.map fun p=>⟨p.Key,p.Key+1⟩
 have hS:Qrd S:=fun x hx=>by
  obtain ⟨p,hp,rfl⟩:=List.mem_map.1 hx
  have:=hm.ok p hp
  exact ⟨this.1,by show p.Key < p.Key+1;omega,by show p.Key+1<=4096;have:=this.2.1;omega⟩
 have Qie:∀ k,mem (S.map pa) k↔Qig m k=true:=fun k=>by
  unfold Qig
  rw [if_neg k2]
  constructor
  ·rintro ⟨x,hx,h1,h2⟩
   obtain ⟨y,hy,rfl⟩:=List.mem_map.1 hx
   obtain ⟨p,hp,rfl⟩:=List.mem_map.1 hy
   have:p.Key=k:=by simp only [pa] at h1 h2;omega
   subst this
   cases hq:look m.Pairs p.Key with
   | some v=>rfl
   | none=>exact absurd rfl (Qsv hq p hp)
  intro hq
  cases hl:look m.Pairs k with
  | none=>rw [hl] at hq;cases hq
  | some v=>
   have:=Qm0 hl
   exact ⟨(k,k+1),List.mem_map.2 ⟨⟨k,k+1⟩,List.mem_map.2 ⟨_,this,rfl⟩,rfl⟩,Int.le_refl _,by show k < k+1;omega⟩
 obtain ⟨r,e1,e2⟩:∃ r,Yy (Qaj.step m) (.l1 0 [])=some r/\∃ v,Qz S=some v/\r=v.1:=by
  refine Qd7 (n:=m.Pairs.length) (fun i x=>Qaj.S.l1 (i:Int) x) (fun i x=>x=(m.Pairs.take i).map fun p=>(⟨p.Key,p.Key+1⟩:Qb)) _ ?_ ?_ 0 [] (Nat.zero_le _) rfl
  ·rintro x rfl
   rw [Qe7 (Nat.le_refl _)]
   rcases Wia (Qoi (a:=S) (by simp [S];omega) hS) with ⟨L,_,_,e⟩ | e
   ·exact ⟨L,by simp only [Qaj.step,Qaj.l1,Int.lt_irrefl,if_false];rw [show m.Pairs.map (fun p=>(⟨p.Key,p.Key+1⟩:Qb))=S from rfl,e];rfl,_,e,rfl⟩
   exact ⟨[],by simp only [Qaj.step,Qaj.l1,Int.lt_irrefl,if_false];rw [show m.Pairs.map (fun p=>(⟨p.Key,p.Key+1⟩:Qb))=S from rfl,e];rfl,_,e,rfl⟩
  rintro i x hi rfl
  left
  have Qay:(0:Int)<=(i:Int)/\(i:Int) < (m.Pairs.length:Int):=by omega
  have hx:=take_at (l:=m.Pairs) (z:=Qa.z) hi
  have Jj:=hm.ok _ (Wjq (z:=Qa.z) hi)
  simp only [Qaj.step,Qaj.l1,Qay.2,if_true,Qay,and_self,show (i:Int).toNat=i from rfl,wr1 hi (by omega:m.Pairs.length<=9223372036854775807)]
  rw [if_pos (by rw [List.length_map,List.length_take];omega),wr (by have:=Jj.1;have:=Jj.2.1;omega),hx,List.map_append]
  exact ⟨_,rfl,rfl⟩
 obtain ⟨v,e3,rfl⟩:=e2
 rw [e1]
 have Qy4:=Qoi (a:=S) (by simp [S];omega) hS
 obtain ⟨L,h1,h2,h3⟩:=Qy4
 have hlen:L.length<=64:=by
  -- no more spans than keys
  have:∀ (L:List Sp),Canon L->∀ ks:List Int,(∀ k,mem L k->k∈ks)->L.length<=ks.length:=by
   intro L hL ks hk
   have hnd:(L.map (·.1)).Nodup:=List.pairwise_map.2 (hL.apart.imp_of_mem fun {x y} hx hy h=>by
    have:=hL.ok x hx
    unfold Sets.Ok at this
    intro e
    omega)
   have Qky:L.map (·.1) ⊆ ks:=fun z hz=>by
    obtain ⟨x,hx,rfl⟩:=List.mem_map.1 hz
    have:=hL.ok x hx
    exact hk _ ⟨x,hx,Int.le_refl _,this.2.1⟩
   have:=Qwo (L.map (·.1)) ks hnd fun z hz=>Qky hz
   simpa using this
  have:=this (L.map pa) h1 (m.Pairs.map (·.Key)) (fun k hk=>by
   have ht:=(Qie k).1 ((h2 k).1 hk)
   unfold Qig at ht
   rw [if_neg k2] at ht
   cases hl:look m.Pairs k with
   | none=>rw [hl] at ht;cases ht
   | some v=>exact List.mem_map.2 ⟨_,Qm0 hl,rfl⟩)
  simp only [List.length_map] at this
  omega
 rw [if_neg (by omega)] at h3
 rw [h3] at e3
 injection e3 with e3
 subst e3
 exact ⟨L,rfl,⟨h1,hlen⟩,fun k=>(h2 k).trans (Qie k)⟩
end Go.SyP
namespace Go.SyP
open Go Go.Sy
def Qib (x y:Int):Int:=if x < y then -1 else if x > y then 1 else 0
def Wch (a b:Qbu):Int:=if Qib a.Time b.Time≠0 then Qib a.Time b.Time else if Qib a.Client b.Client≠0 then Qib a.Client b.Client else Qib a.Seq b.Seq
theorem Qp8 (x y:Int):Yr x y=Qib x y:=by
 unfold Yr cmp_isNaN_int Qib
 by_cases h1:x < y
 ·simp [h1]
 by_cases h2:x > y
 ·simp [h1,h2]
 simp [h1,h2]
theorem Qvi (a b:Qbu):Qc6 a b=some (Wch a b):=by
 unfold Qc6 Qam Wch
 rw [Qp8,Qp8,Qp8]
 generalize Qib a.Time b.Time=x
 generalize Qib a.Client b.Client=y
 generalize Qib a.Seq b.Seq=z
 have w0:IntKind.wrap .i64 ((0:Int)+1)=1:=by decide
 have w1:IntKind.wrap .i64 ((1:Int)+1)=2:=by decide
 have w2:IntKind.wrap .i64 ((2:Int)+1)=3:=by decide
 rw [Ya]
 simp only [Qam.step,Qam.l1,List.length_cons,List.length_nil]
 by_cases hx:x=0
 ·subst hx
  simp only [w0,Jq]
  rw [show (if (0:Int) < ((0+1+1+1:Nat):Int) then _ else _)=_ from if_pos (by decide),if_pos (by decide)]
  simp only [List.getD_cons_zero,Int.toNat_zero,if_true]
  rw [Ya]
  simp only [Qam.step,Qam.l1,List.length_cons,List.length_nil,w1]
  rw [if_pos (by decide),if_pos (by decide)]
  simp only [show (1:Int).toNat=1 from rfl,List.getD_cons_succ,List.getD_cons_zero]
  by_cases hy:y=0
  ·subst hy
   simp only [if_true,Jq]
   rw [Ya]
   simp only [Qam.step,Qam.l1,List.length_cons,List.length_nil,w2]
   rw [if_pos (by decide),if_pos (by decide)]
   simp only [show (2:Int).toNat=2 from rfl,List.getD_cons_succ,List.getD_cons_zero]
   by_cases hz:z=0
   ·subst hz
    simp only [if_true,Jq]
    rw [Ya]
    simp [Qam.step,Qam.l1,Jq]
   simp [hz,Jq]
  simp [hy,Jq]
 rw [if_pos (by decide),if_pos (by decide)]
 simp [hx,Jq]
def ltS (a b:Qbu):Prop:=a.Time < b.Time\/(a.Time=b.Time/\(a.Client < b.Client\/(a.Client=b.Client/\a.Seq < b.Seq)))
instance (a b:Qbu):Decidable (ltS a b):=by unfold ltS;infer_instance
theorem Wmb (a b:Qbu):Wch a b < 0↔ltS a b:=by
 unfold Wch Qib ltS
 split<;>split<;>(try split)<;>(try split)<;>omega
end Go.SyP
