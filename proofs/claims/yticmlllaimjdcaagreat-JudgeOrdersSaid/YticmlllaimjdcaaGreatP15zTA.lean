/- Sets of keys: making, meeting, lessening (printed of P03). -/
import Derived.Test.YticmlllaimjdcaaGreatP15zG
import Derived.Test.YticmlllaimjdcaaGreatG15zW
import Derived.Test.YticmlllaimjdcaaGreatP15zE
set_option linter.unusedVariables false
set_option linter.unusedSimpArgs false
namespace Go.SyP
open Go Go.Sy Sets
theorem Wkf (a b:List Qb) (ha:a.length<=5000) (hb:b.length<=5000):∃ r,Qar a b=some r/\r.map pa=both (a.map pa) (b.map pa):=by
 unfold Qar
 have inner:∀ (i:Nat) (lo hi:Int) (x:List Qb),x.length<=i * 5000->i < a.length->∃ y,Xf (Qar.step a b) (.l2 (i:Int) 0 x lo hi)=Xf (Qar.step a b) (.l1 ((i+1:Nat):Int) y)/\y.map pa=x.map pa ++ (b.map pa).filterMap (fun t=>cut (lo,hi) t):=by
  intro i lo hi x hx hi'
  have key:∀ (m j:Nat) (y:List Qb),j+m=b.length->y.length<=i * 5000+j->∃ y',Xf (Qar.step a b) (.l2 (i:Int) (j:Int) y lo hi)=Xf (Qar.step a b) (.l1 ((i+1:Nat):Int) y')/\y'.map pa=y.map pa ++ ((b.drop j).map pa).filterMap (fun t=>cut (lo,hi) t):=by
   intro m
   induction m with
   | zero=>
    intro j y hj hy
    obtain rfl:j=b.length:=by omega
    refine ⟨y, ?_,by simp⟩
    rw [Zc]
    simp [Qar.step,Qar.l2,stk,wr1 hi' (by omega:a.length<=9223372036854775807)]
   | succ m ih=>
    intro j y hj hy
    have hjl:j < b.length:=by omega
    have Xu:(0:Int)<=(j:Int)/\(j:Int) < (b.length:Int):=by omega
    have hd:(b.drop j).map pa=pa (b.getD (j:Int).toNat Qb.z) :: (b.drop (j+1)).map pa:=by
     rw [Qlh (z:=Qb.z) hjl];rfl
    rw [Zc]
    simp only [Qar.step,Qar.l2,Xu.2,if_true,Xu,and_self]
    rw [hd,List.filterMap_cons]
    generalize b.getD (j:Int).toNat Qb.z=T
    have hmm:Qf6 lo T.Lo=max lo T.Lo/\Qh3 hi T.Hi=min hi T.Hi:=by
     unfold Qf6 Qh3
     constructor
     ·split<;>omega
     split<;>omega
    rw [hmm.1,hmm.2]
    have hcut:cut (lo,hi) (pa T)=if max lo T.Lo < min hi T.Hi then some (max lo T.Lo,min hi T.Hi) else none:=rfl
    rw [hcut]
    by_cases hc:max lo T.Lo < min hi T.Hi
    ·have hbnd:(y.length+1) * 16<=140737488355328:=by
      have:i * 5000<=5000 * 5000:=Nat.mul_le_mul_right _ (by omega)
      omega
     simp only [hc,if_true,hbnd,Qar.j1,stk,wr1 hjl (by omega:b.length<=9223372036854775807)]
     obtain ⟨y',h1,h2⟩:=ih (j+1) (y ++ [⟨max lo T.Lo,min hi T.Hi⟩]) (by omega) (by simp;omega)
     refine ⟨y',h1, ?_⟩
     rw [h2]
     simp [pa]
    simp only [hc,if_false,Qar.j1,stk,wr1 hjl (by omega:b.length<=9223372036854775807)]
    exact ih (j+1) y (by omega) (by omega)
  have h:=key b.length 0 x (Nat.zero_add _) (by rw [Nat.add_zero];exact hx)
  rw [List.drop_zero] at h
  exact h
 have outer:∀ (m i:Nat) (x:List Qb),i+m=a.length->x.length<=i * 5000->∃ r,Xf (Qar.step a b) (.l1 (i:Int) x)=some r/\r.map pa=x.map pa ++ both ((a.drop i).map pa) (b.map pa):=by
  intro m
  induction m with
  | zero=>
   intro i x hi hx
   obtain rfl:i=a.length:=by omega
   refine ⟨x, ?_,by simp [both]⟩
   rw [Zc]
   simp [Qar.step,Qar.l1,stk]
  | succ m ih=>
   intro i x hi hx
   have hil:i < a.length:=by omega
   have Xu:(0:Int)<=(i:Int)/\(i:Int) < (a.length:Int):=by omega
   have hd:(a.drop i).map pa=pa (a.getD (i:Int).toNat Qb.z) :: (a.drop (i+1)).map pa:=by
    rw [Qlh (z:=Qb.z) hil];rfl
   rw [Zc]
   simp only [Qar.step,Qar.l1,Xu.2,if_true,Xu,and_self,stk]
   obtain ⟨y,h1,h2⟩:=inner i (a.getD (i:Int).toNat Qb.z).Lo (a.getD (i:Int).toNat Qb.z).Hi x hx hil
   have hyl:y.length<=(i+1) * 5000:=by
    have e:y.length=(y.map pa).length:=by simp
    rw [e,h2,List.length_append,Nat.add_mul]
    have:=List.length_filterMap_le (fun t=>cut ((a.getD (i:Int).toNat Qb.z).Lo,(a.getD (i:Int).toNat Qb.z).Hi) t) (b.map pa)
    simp only [List.length_map] at this ⊢
    omega
   obtain ⟨r,h3,h4⟩:=ih (i+1) y (by omega) hyl
   refine ⟨r,by rw [<- h3];exact h1, ?_⟩
   rw [h4,h2,hd]
   simp [both,pa,List.append_assoc]
 obtain ⟨r,h1,h2⟩:=outer a.length 0 [] (by omega) (by simp)
 exact ⟨r,h1,by simpa using h2⟩
def Qkf (a:List Qb):Prop:=∀ x∈a,Ok (pa x)
def Qqi (a:List Qb):Prop:=Canon (a.map pa)/\a.length<=64
def Res (m:Int->Prop) (o:Option (List Qb × Int)):Prop:=∃ L:List Qb,Canon (L.map pa)/\(∀ k,mem (L.map pa) k↔m k)/\o=some (if 64 < L.length then ([],2) else (L,0))
theorem Whj (a:List Qb):(Qai Qb.z Ze a).Pairwise fun x y=>x.Lo<=y.Lo:=
 (Qri Qb.z Qlb a).imp fun {x y} h=>by
  rw [Ql0] at h
  simp at h
  exact h
theorem Wgx (a:List Qb) (ha:a.length<=5000) (hg:Qkf a):Res (fun k=>mem (a.map pa) k) (Xf (Wx.step a) (.l1 0 [])):=by
 have hp:=Qpz Qb.z Qlb a
 have hso:=Whj a
 have Qi3:∀ k,mem ((Qai Qb.z Ze a).map pa) k↔mem (a.map pa) k:=fun k=>Wi6 (hp.map pa)
 have Jp:∀ x∈Qai Qb.z Ze a,Ok (pa x):=fun x hx=>hg x (hp.mem_iff.1 hx)
 have hlen:(Qai Qb.z Ze a).length<=5000:=by rw [hp.length_eq];exact ha
 unfold Res
 obtain ⟨r,h1,L,h2,h3,h4⟩:=Qbi (step:=Wx.step a) (n:=(Qai Qb.z Ze a).length) (fun i (x:List Qb)=>Wx.S.l1 (i:Int) x)
  (fun i x=>Canon (x.map pa)/\(∀ k,mem (x.map pa) k↔mem (((Qai Qb.z Ze a).take i).map pa) k)/\(∀ y∈x,∀ z∈(Qai Qb.z Ze a).drop i,y.Lo<=z.Lo)/\x.length<=i)
  (fun r=>∃ L:List Qb,Canon (L.map pa)/\(∀ k,mem (L.map pa) k↔mem (a.map pa) k)/\r=if 64 < L.length then ([],2) else (L,0)) (by
   rintro x ⟨h1,h2,_,_⟩
   rw [Qa3 (Nat.le_refl _)] at h2
   simp only [Wx.step,Wx.l1]
   rw [if_neg (by omega)]
   unfold bnd Qfx
   by_cases h64:64 < x.length
   ·rw [if_pos (by omega)]
    exact ⟨_,rfl,x,h1,fun k=>(h2 k).trans (Qi3 k),by rw [if_pos h64]⟩
   ·rw [if_neg (by omega)]
    exact ⟨_,rfl,x,h1,fun k=>(h2 k).trans (Qi3 k),by rw [if_neg h64]⟩) (by
   rintro i x hi ⟨h1,h2,h3,h4⟩
   left
   have hd:=Qlh (l:=Qai Qb.z Ze a) (z:=Qb.z) hi
   have ht:=Qd2 (l:=Qai Qb.z Ze a) (z:=Qb.z) hi
   have hs1:((Qai Qb.z Ze a).drop i).Pairwise fun x y=>x.Lo<=y.Lo:=hso.sublist (List.drop_sublist ..)
   have hox:Ok (pa ((Qai Qb.z Ze a).getD (i:Int).toNat Qb.z)):=Jp _ (List.mem_of_mem_drop (by rw [hd];exact List.mem_cons_self ..))
   simp only [Wx.step,Wx.l1]
   rw [if_pos (by omega),if_pos (by omega)]
   unfold Wx.j1
   rw [hd] at h3 hs1
   generalize (Qai Qb.z Ze a).getD (i:Int).toNat Qb.z=S at hd ht hs1 hox h3 ⊢
   have hS:=(List.pairwise_cons.1 hs1).1
   rw [wr1 hi (by omega)]
   have hox':=hox
   unfold Sets.Ok pa at hox'
   simp only at hox'
   have app:(∀ y∈x.map pa,y.2 < S.Lo)->∃ y,(some (.inl (.l1 ((i+1:Nat):Int) (x ++ [S]))):Option (Wx.S ⊕ (List Qb × Int)))=some (.inl (.l1 ((i+1:Nat):Int) y))/\Canon (y.map pa)/\(∀ k,mem (y.map pa) k↔mem (((Qai Qb.z Ze a).take (i+1)).map pa) k)/\(∀ y'∈y,∀ z∈(Qai Qb.z Ze a).drop (i+1),y'.Lo<=z.Lo)/\y.length<=i+1:=by
    intro hlast
    refine ⟨_,rfl, ?_,fun k=>?_,fun y' hy' z hz=>?_,by simp;omega⟩
    ·rw [List.map_append]
     exact Qgw.2 ⟨h1,hox,hlast⟩
    ·rw [ht,List.map_append,List.map_append,mem_append,mem_append,h2 k]
    rcases List.mem_append.1 hy' with hy' | hy'
    ·exact h3 y' hy' z (List.mem_cons_of_mem _ hz)
    simp at hy';subst hy';exact hS z hz
   rcases List.eq_nil_or_concat x with hx | ⟨o,Y,hx⟩
   ·subst hx
    rw [if_neg (by decide),if_neg (by decide),if_pos (by simp)]
    exact app (by simp)
   subst hx
   rw [List.concat_eq_append] at *
   have h4':o.length+1<=i:=by simpa using h4
   have hw:IntKind.wrap .i64 (((o ++ [Y]).length:Int) - 1)=(o.length:Int):=by
    rw [wr (by simp;omega)];simp
   rw [hw,if_pos (by omega),if_pos (by simp;omega)]
   have Qyo:(o ++ [Y]).getD (o.length:Int).toNat Qb.z=Y:=by simp
   rw [Qyo]
   have hmap:(o ++ [Y]).map pa=o.map pa ++ [pa Y]:=by rw [List.map_append];rfl
   by_cases hc:S.Lo<=Y.Hi
   ·rw [if_pos (decide_eq_true hc),if_pos (by simp;omega)]
    have Qvd:∀ Z,(o ++ [Y]).set (o.length:Int).toNat Z=o ++ [Z]:=fun Z=>by simp
    rw [Qvd]
    have hYS:Y.Lo<=S.Lo:=h3 Y (by simp) S (List.mem_cons_self ..)
    rw [hmap] at h1 h2
    have hc2:=Qgw.1 h1
    have hoY:=hc2.2.1
    unfold Sets.Ok pa at hoY
    simp only at hoY
    have hmx:Qf6 Y.Hi S.Hi=max Y.Hi S.Hi:=by unfold Qf6;split<;>omega
    rw [hmx]
    refine ⟨_,rfl, ?_,fun k=>?_,fun y' hy' z hz=>?_,by simp at h4 ⊢;omega⟩
    ·rw [List.map_append]
     refine Qgw.2 ⟨hc2.1, ?_,hc2.2.2⟩
     unfold Sets.Ok pa
     simp only
     omega
    ·rw [ht,List.map_append,List.map_append,mem_append,mem_append,<- h2 k,mem_append]
     have e:mem (List.map pa [(⟨Y.Lo,max Y.Hi S.Hi⟩:Qb)]) k↔mem [pa Y] k\/mem (List.map pa [S]) k:=by
      simp only [List.map_cons,List.map_nil,mem_cons,Qku,or_false,pa]
      omega
     rw [e,or_assoc]
    rcases List.mem_append.1 hy' with hy' | hy'
    ·exact h3 y' (List.mem_append_left _ hy') z (List.mem_cons_of_mem _ hz)
    simp at hy';subst hy';exact h3 Y (by simp) z (List.mem_cons_of_mem _ hz)
   rw [if_neg (by simpa using hc),if_pos (by omega)]
   refine app fun y hy=>?_
   rw [hmap] at h1 hy
   have:=Qt2 h1 y hy
   simp only [pa] at this
   omega) 0 [] (Nat.zero_le _) ⟨Canon.nil,fun k=>by simp,fun y hy=>by simp at hy,by simp⟩
 refine ⟨L,h2,h3, ?_⟩
 rw [<- h4]
 exact h1
theorem War (a:List Qb):(a.any fun z=>Qhs z)=true↔¬ Qkf a:=by
 simp only [List.any_eq_true,Qhs,Qkd,Qkf]
 constructor
 ·rintro ⟨x,hx,h⟩ hg
  rw [decide_eq_true (hg x hx)] at h
  cases h
 intro h
 apply Classical.byContradiction
 intro hn
 refine h fun x hx=>Classical.byContradiction fun ho=>hn ⟨x,hx, ?_⟩
 rw [decide_eq_false ho]
 rfl
theorem Wk8 {a:List Qb} (ha:a.length<=5000) (h:¬ Qkf a):Wx a=some ([],1):=by
 unfold Wx
 rw [contains_eq a (by omega),Option.bind_some,if_pos ((War a).2 h)]
theorem Qoy {a:List Qb} (ha:a.length<=5000) (h:Qkf a):Res (fun k=>mem (a.map pa) k) (Wx a):=by
 unfold Wx
 have e:(a.any fun z=>Qhs z)=false:=by
  cases hb:a.any fun z=>Qhs z with
  | false=>rfl
  | true=>exact absurd h ((War a).1 hb)
 rw [contains_eq a (by omega),Option.bind_some,e,if_neg (by decide),if_pos (by omega)]
 exact Wgx a ha h
theorem Whc {m:Int->Prop} {o:Option (List Qb × Int)} (h:Res m o):(∃ L,Qqi L/\(∀ k,mem (L.map pa) k↔m k)/\o=some (L,0))\/o=some ([],2):=by
 obtain ⟨L,h1,h2,h3⟩:=h
 by_cases h64:64 < L.length
 ·rw [if_pos h64] at h3
  exact .inr h3
 rw [if_neg h64] at h3
 exact .inl ⟨L,⟨h1,by omega⟩,h2,h3⟩
theorem chk (a:List Qb) (ha:a.length<=5000):∃ r,Zz a=some r/\(r=true↔Qqi a):=by
 have h:=Qqb a (by omega)
 exact h
theorem Wlh {a:List Qb} (ha:a.length<=5000) (h:Qqi a):Zz a=some true:=by
 obtain ⟨r,h1,h2⟩:=chk a ha
 rw [h1,h2.2 h]
theorem Wlg {a:List Qb} (ha:a.length<=5000) (h:¬ Qqi a):Zz a=some false:=by
 obtain ⟨r,h1,h2⟩:=chk a ha
 cases r with
 | false=>exact h1
 | true=>exact absurd (h2.1 rfl) h
theorem Wjk (a b:List Qb) (ha:a.length<=5000) (hb:b.length<=5000):∃ v,Qdx a b=some v/\(v=true↔Qqi a/\Qqi b/\∃ k,mem (a.map pa) k/\mem (b.map pa) k):=by
 unfold Qdx
 by_cases h1:Qqi a
 ·rw [Wlh ha h1,Option.bind_some,if_pos rfl]
  by_cases h2:Qqi b
  ·have l1:=h1.2
   have l2:=h2.2
   rw [Wlh hb h2,Option.bind_some,if_pos rfl]
   obtain ⟨r,e1,e2⟩:=Wkf a b (by omega) (by omega)
   rw [e1,Option.bind_some]
   refine ⟨_,rfl, ?_⟩
   have hr:Canon (r.map pa):=by rw [e2];exact h1.1.both h2.1
   simp only [h1,h2,true_and,decide_eq_true_eq]
   constructor
   ·intro h
    cases r with
    | nil=>simp at h
    | cons x r=>
     have ox:=hr.ok (pa x) (by simp)
     unfold Sets.Ok at ox
     refine ⟨(pa x).1,Qyy.1 ?_⟩
     rw [<- e2]
     exact mem_cons.2 (.inl ⟨by omega,by omega⟩)
   rintro ⟨k,hk⟩
   have:=Qyy.2 hk
   rw [<- e2] at this
   cases r with
   | nil=>exact absurd this Qku
   | cons x r=>simp
  rw [Wlg hb h2,Option.bind_some,if_neg (by decide)]
  exact ⟨false,rfl,by simp [h2]⟩
 rw [Wlg ha h1,Option.bind_some,if_neg (by decide)]
 exact ⟨false,rfl,by simp [h1]⟩
end Go.SyP
namespace Go.SyP
open Go Go.Sy Sets
theorem Qyj {α:Type} {l:List α} {i:Nat} {z:α} (h:i < l.length):l.getD i z∈l:=by
 simp [List.getD_eq_getElem?_getD,h]
theorem Qwn:∀ (l m:List Int),l.Nodup->(∀ x∈l,x∈m)->l.length<=m.length
 | [],_,_,_=>by simp
 | x :: l,m,h,hs=>by
  obtain ⟨h1,h2⟩:=List.nodup_cons.1 h
  have hx:=hs x (List.mem_cons_self ..)
  have:=Qwn l (m.erase x) h2 fun y hy=>(List.mem_erase_of_ne (fun e=>h1 (by rw [<- e];exact hy))).2 (hs y (List.mem_cons_of_mem _ hy))
  rw [List.length_erase_of_mem hx] at this
  have:0 < m.length:=List.length_pos_of_mem hx
  simp only [List.length_cons]
  omega
theorem Qq5 {m:We} (h:mOk m=true):∃ T,Qbd m=some T/\SOk T/\∀ k,mem (T.map pa) k↔Qh6 m k=true:=by
 have hm:=Qxk h
 have hl:=hm.len
 unfold Qbd
 rw [Qgg m (by omega),Option.bind_some,if_pos h]
 by_cases k2:m.Kind=2
 ·rw [if_pos k2]
  refine ⟨_,rfl,Qix (hm.Qtn k2),fun k=>?_⟩
  unfold Qh6
  rw [if_pos k2]
  simp only [List.map_cons,List.map_nil,mem_cons,Bool.and_eq_true,decide_eq_true_eq]
  constructor
  ·rintro (h | h)
   ·exact h
   exact absurd h Qku
  exact fun h=>.inl h
 rw [if_neg k2]
 let S:List Qb:=m.Pairs.map fun p=>⟨p.Key,p.Key+1⟩
 have hS:Qkf S:=fun x hx=>by
  obtain ⟨p,hp,rfl⟩:=List.mem_map.1 hx
  have:=hm.ok p hp
  exact ⟨this.1,by show p.Key < p.Key+1;omega,by show p.Key+1<=4096;have:=this.2.1;omega⟩
 have Qi3:∀ k,mem (S.map pa) k↔Qh6 m k=true:=fun k=>by
  unfold Qh6
  rw [if_neg k2]
  constructor
  ·rintro ⟨x,hx,h1,h2⟩
   obtain ⟨y,hy,rfl⟩:=List.mem_map.1 hx
   obtain ⟨p,hp,rfl⟩:=List.mem_map.1 hy
   have:p.Key=k:=by simp only [pa] at h1 h2;omega
   subst this
   cases hq:look m.Pairs p.Key with
   | some v=>rfl
   | none=>exact absurd rfl (Qsy hq p hp)
  intro hq
  cases hl:look m.Pairs k with
  | none=>rw [hl] at hq;cases hq
  | some v=>
   have:=Qpo hl
   exact ⟨(k,k+1),List.mem_map.2 ⟨⟨k,k+1⟩,List.mem_map.2 ⟨_,this,rfl⟩,rfl⟩,Int.le_refl _,by show k < k+1;omega⟩
 obtain ⟨r,e1,e2⟩:∃ r,Xf (Qbd.step m) (.l1 0 [])=some r/\∃ v,Wx S=some v/\r=v.1:=by
  refine Qbi (n:=m.Pairs.length) (fun i x=>Qbd.S.l1 (i:Int) x) (fun i x=>x=(m.Pairs.take i).map fun p=>(⟨p.Key,p.Key+1⟩:Qb)) _ ?_ ?_ 0 [] (Nat.zero_le _) rfl
  ·rintro x rfl
   rw [Qa3 (Nat.le_refl _)]
   rcases Whc (Qoy (a:=S) (by simp [S];omega) hS) with ⟨L,_,_,e⟩ | e
   ·exact ⟨L,by simp only [Qbd.step,Qbd.l1,Int.lt_irrefl,if_false];rw [show m.Pairs.map (fun p=>(⟨p.Key,p.Key+1⟩:Qb))=S from rfl,e];rfl,_,e,rfl⟩
   exact ⟨[],by simp only [Qbd.step,Qbd.l1,Int.lt_irrefl,if_false];rw [show m.Pairs.map (fun p=>(⟨p.Key,p.Key+1⟩:Qb))=S from rfl,e];rfl,_,e,rfl⟩
  rintro i x hi rfl
  left
  have Xu:(0:Int)<=(i:Int)/\(i:Int) < (m.Pairs.length:Int):=by omega
  have hx:=take_at (l:=m.Pairs) (z:=Qa.z) hi
  have Jp:=hm.ok _ (Qyj (z:=Qa.z) hi)
  simp only [Qbd.step,Qbd.l1,Xu.2,if_true,Xu,and_self,show (i:Int).toNat=i from rfl,wr1 hi (by omega:m.Pairs.length<=9223372036854775807)]
  rw [if_pos (by rw [List.length_map,List.length_take];omega),wr (by have:=Jp.1;have:=Jp.2.1;omega),hx,List.map_append]
  exact ⟨_,rfl,rfl⟩
 obtain ⟨v,e3,rfl⟩:=e2
 rw [e1]
 have Wix:=Qoy (a:=S) (by simp [S];omega) hS
 obtain ⟨L,h1,h2,h3⟩:=Wix
 have hlen:L.length<=64:=by
  -- no more spans than keys
  have:∀ (L:List Sp),Canon L->∀ ks:List Int,(∀ k,mem L k->k∈ks)->L.length<=ks.length:=by
   intro L hL ks hk
   have hnd:(L.map (·.1)).Nodup:=List.pairwise_map.2 (hL.apart.imp_of_mem fun {x y} hx hy h=>by
    have:=hL.ok x hx
    unfold Sets.Ok at this
    intro e
    omega)
   have Qjm:L.map (·.1) ⊆ ks:=fun z hz=>by
    obtain ⟨x,hx,rfl⟩:=List.mem_map.1 hz
    have:=hL.ok x hx
    exact hk _ ⟨x,hx,Int.le_refl _,this.2.1⟩
   have:=Qwn (L.map (·.1)) ks hnd fun z hz=>Qjm hz
   simpa using this
  have:=this (L.map pa) h1 (m.Pairs.map (·.Key)) (fun k hk=>by
   have ht:=(Qi3 k).1 ((h2 k).1 hk)
   unfold Qh6 at ht
   rw [if_neg k2] at ht
   cases hl:look m.Pairs k with
   | none=>rw [hl] at ht;cases ht
   | some v=>exact List.mem_map.2 ⟨_,Qpo hl,rfl⟩)
  simp only [List.length_map] at this
  omega
 rw [if_neg (by omega)] at h3
 rw [h3] at e3
 injection e3 with e3
 subst e3
 exact ⟨L,rfl,⟨h1,hlen⟩,fun k=>(h2 k).trans (Qi3 k)⟩
end Go.SyP
