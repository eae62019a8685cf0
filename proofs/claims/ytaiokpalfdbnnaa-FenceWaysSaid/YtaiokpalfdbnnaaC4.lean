/- Ways cV one by one; Put -/
import Derived.Test.YtaiokpalfdbnnaaC3
namespace Go.Proofs.Ytaiokpalfdbnnaa
open Go A

abbrev Pr:=da Bool
def sn (a:Pr) (o:Bool):Bool:=if o=true then a.e1 else a.e0
def Sn (se:List Pr) (k:Nat) (o:Bool):Prop:=∃ a,se[k]?=some a∧sn a o=true
def xm (a:Pr) (o:Bool):Pr:=if o=true then da.mk a.e0 true else da.mk true a.e1
def wP (a:Pr):Nat:=(!a.e0).toNat + (!a.e1).toNat
def Ps (td:List (Nat×Bool)):List ad:=td.map (fun p=>ad.mk (p.1:Int) p.2)
def mP (se:List Pr) (td:List (Nat×Bool)):Nat:=3 * (se.map wP).sum + td.length
structure DI (l:List ab) (se:List Pr) (td:List (Nat×Bool)):Prop where
  len:se.length=l.length
  so:∀ k o,Sn se k o→D l k o
  to:∀ p∈td,p.1<l.length∧D l p.1 p.2
  z:Sn se 0 false∨(0,false)∈td
  cl:∀ k o s,Sn se k o→l[k]?=some s→∀ i,Su l k i→Sn se i (out o s)∨(i,out o s)∈td
theorem Ce (a:Pr) (o o':Bool):sn (xm a o) o'=(sn a o'||(o==o')):=by
  obtain ⟨a0,a1⟩:=a
  cases o <;> cases o' <;> simp [sn,xm]
theorem H4 {a:Pr} {o:Bool} (h:sn a o=false):wP (xm a o) + 1=wP a:=by
  obtain ⟨a0,a1⟩:=a
  cases o <;> simp [sn,xm,wP] at * <;> subst h <;> simp
  omega
theorem wv {se:List Pr} {k:Nat} {a:Pr} (hk:se[k]?=some a) (o:Bool) (q:Nat) (o':Bool):Sn (se.set k (xm a o)) q o'↔Sn se q o'∨(q=k∧o'=o):=by
  have hkl:=(List.getElem?_eq_some_iff.1 hk).1
  unfold Sn
  rw [bu hkl]
  by_cases e:k=q
  · subst e
    rw [if_pos rfl,hk]
    constructor
    · rintro ⟨x,h1,h2⟩
      cases h1
      rw [Ce,Bool.or_eq_true,beq_iff_eq] at h2
      rcases h2 with h2 | h2
      · exact .inl ⟨a,rfl,h2⟩
      · exact .inr ⟨rfl,h2.symm⟩
    · rintro (⟨x,h1,h2⟩ | ⟨_,rfl⟩)
      · cases h1
        exact ⟨_,rfl,by rw [Ce,h2,Bool.true_or]⟩
      · exact ⟨_,rfl,by rw [Ce]; simp⟩
  · rw [if_neg e]
    constructor
    · exact fun h=>.inl h
    · rintro (h | ⟨h,_⟩)
      · exact h
      · exact (e h.symm).elim
theorem DI.pop {l:List ab} {se:List Pr} {init:List (Nat×Bool)} {k:Nat} {o:Bool} (h:DI l se (init++[(k,o)])) (hs:Sn se k o):DI l se init:=by
  have drop:∀ {p:Nat×Bool},p∈init++[(k,o)]→Sn se p.1 p.2∨p∈init:=fun {p} hp=>by
    rcases List.mem_append.1 hp with hp | hp
    · exact .inr hp
    · rw [List.mem_singleton.1 hp]
      exact .inl hs
  refine ⟨h.len,h.so,fun p hp=>h.to p (List.mem_append_left _ hp),?_,fun q o' s hq hs2 i hi=>?_⟩
  · rcases h.z with h1 | h1
    · exact .inl h1
    · exact drop h1
  · rcases h.cl q o' s hq hs2 i hi with h1 | h1
    · exact .inl h1
    · exact drop h1
theorem DI.go {l:List ab} {se:List Pr} {init:List (Nat×Bool)} {k:Nat} {o:Bool} {a:Pr} {s:ab} {nx:List Int} (h:DI l se (init++[(k,o)])) (hk:se[k]?=some a) (hs:l[k]?=some s) (hnx:lG l k nx):DI l (se.set k (xm a o)) (init++nx.map (fun x=>(x.toNat,out o s))):=by
  have hd:D l k o:=(h.to (k,o) (List.mem_append_right _ (List.mem_singleton.2 rfl))).2
  have drop:∀ {p:Nat×Bool},p∈init++[(k,o)]→Sn (se.set k (xm a o)) p.1 p.2∨p∈init++nx.map (fun x=>(x.toNat,out o s)):=fun {p} hp=>by
    rcases List.mem_append.1 hp with hp | hp
    · exact .inr (List.mem_append_left _ hp)
    · rw [List.mem_singleton.1 hp]
      exact .inl ((wv hk o k o).2 (.inr ⟨rfl,rfl⟩))
  refine ⟨by rw [List.length_set]; exact h.len,fun q o' hq=>?_,fun p hp=>?_,?_,fun q o' s' hq hs2 i hi=>?_⟩
  · rcases (wv hk o q o').1 hq with h1 | ⟨rfl,rfl⟩
    · exact h.so q o' h1
    · exact hd
  · rcases List.mem_append.1 hp with hp | hp
    · exact h.to p (List.mem_append_left _ hp)
    · obtain ⟨x,hx,rfl⟩:=List.mem_map.1 hp
      obtain ⟨h1,h2⟩:=hnx.2.1 x hx
      have hsu:Su l k x.toNat:=(hnx.2.2 x.toNat).1 (by rw [show ((x.toNat:Nat):Int)=x by omega]; exact hx)
      exact ⟨by show x.toNat<_; omega,.step hd hs hsu⟩
  · rcases h.z with h1 | h1
    · exact .inl ((wv hk o 0 false).2 (.inl h1))
    · exact drop h1
  · rcases (wv hk o q o').1 hq with h1 | ⟨rfl,rfl⟩
    · rcases h.cl q o' s' h1 hs2 i hi with h2 | h2
      · exact .inl ((wv hk o i _).2 (.inl h2))
      · exact drop h2
    · rw [hs] at hs2
      cases hs2
      refine .inr (List.mem_append_right _ (List.mem_map.2 ⟨(i:Int),(hnx.2.2 i).2 hi,?_⟩))
      rw [Int.toNat_natCast]
theorem d2 (n:Nat) (hn:100≤n) (c:ax) (se:List Pr) (td:List (Nat×Bool)) (htd:td.length≤1000000) (o:Bool) (nx:List Int) (h2:nx.length≤2) (hx:∀ x∈nx,0≤x) :
    T (iter (fun s=>bm n c s) n (se,Ps td,o,nx,0)) (fun t=>t=(se,Ps (td++nx.map (fun x=>(x.toNat,o))))):=by
  refine T.loop nx.length (fun i s=>s=(se,Ps (td++(nx.take i).map (fun x=>(x.toNat,o))),o,nx,(i:Int))) _ (fun i s hi hs=>?_) (by simp) (by omega)
  subst hs
  unfold bm
  refine T.ite (fun h=>?_) (fun h=>?_)
  · have h:=of_decide_eq_true h
    have h:(i:Int)<(nx.length:Int):=h
    have hi':i<nx.length:=by omega
    refine T.get i rfl hi' (T.grd (Nat.ble_eq_true_of_le ?_) (T.next ⟨hi',?_⟩))
    · show ((Ps (td++(nx.take i).map (fun x=>(x.toNat,o)))).length + 1) * 16≤_
      unfold Ps
      rw [List.length_map,List.length_append,List.length_map,List.length_take]
      omega
    · show (se,Ps (td++(nx.take i).map (fun x=>(x.toNat,o)))++([ad.mk nx[i] o]:List ad),o,nx,ah .i64 (i:Int) 1)=_
      have h0:=hx nx[i] (List.getElem_mem hi')
      rw [show ah .i64 (i:Int) 1=((i + 1:Nat):Int) from cN i (by omega),List.take_succ_eq_append_getElem hi',List.map_append,← List.append_assoc]
      unfold Ps
      rw [List.map_append (l₂:=List.map _ [nx[i]])]
      simp only [List.map_cons,List.map_nil]
      rw [show ((nx[i].toNat:Nat):Int)=nx[i] by omega]
  · have h:=of_decide_eq_false h
    have h:¬ (i:Int)<(nx.length:Int):=h
    rw [List.take_of_length_le (show nx.length≤i by omega)]
    exact T.fin rfl
theorem ym {s:ab} (h:(s.Op==7)=true) (o:Bool):out o s=false:=by
  unfold out
  have h1:nf s=false:=by rw [H2] at h; simpa using h
  rw [h1,Bool.false_and]
theorem FW {s:ab} (h:(s.Op==7)=false) (o:Bool):out o s=(o||uw s):=by
  unfold out
  have h1:nf s=true:=by rw [H2] at h; simpa using h
  rw [h1,Bool.true_and]
theorem d1 {B:Nat} (n:Nat) (hn:100≤n) (c:ax) (hl:c.Steps.length≤4096) (hB:B≤100000) (hBn:B<n) (se:List Pr) (td:List (Nat×Bool)) (hm:mP se td≤B) (h0:DI c.Steps se td) :
    T (iter (fun s=>hG n c s) n (se,Ps td)) (fun t=>DI c.Steps t []):=by
  refine T.fall (fun m s=>∃ se td,s=(se,Ps td)∧(mP se td=m∧m≤B)∧DI c.Steps se td) _ (fun m s hs=>?_) n (mP se td) _ ⟨se,td,rfl,⟨rfl,hm⟩,h0⟩ (by omega)
  clear hm h0
  obtain ⟨se,td,rfl,⟨rfl,hm⟩,hd⟩:=hs
  unfold hG
  rcases snoc td with rfl | ⟨init,⟨k,o⟩,rfl⟩
  · exact T.fin hd
  · have hlen:mP se (init++[(k,o)])=3 * (se.map wP).sum + init.length + 1:=by unfold mP; rw [List.length_append,List.length_singleton]; omega
    have hPl:(Ps (init++[(k,o)])).length=init.length + 1:=by unfold Ps; rw [List.length_map,List.length_append,List.length_singleton]
    obtain ⟨hk,_⟩:=hd.to (k,o) (List.mem_append_right _ (List.mem_singleton.2 rfl))
    have hk:k<c.Steps.length:=hk
    have hks:k<se.length:=by have:=hd.len; omega
    have hsk:se[k]?=some se[k]:=List.getElem?_eq_getElem hks
    have hs:c.Steps[k]?=some c.Steps[k]:=List.getElem?_eq_getElem hk
    have e1:bc .i64 ((Ps (init++[(k,o)])).length:Int) 1=(init.length:Int):=by
      rw [hPl,AS _ (by omega) (by omega)]
      rfl
    have e2:aT (Ps (init++[(k,o)])) (init.length:Int)=some (ad.mk (k:Int) o):=by
      rw [jn]
      unfold Ps
      rw [List.map_append,List.getElem?_append_right (by rw [List.length_map]; exact Nat.le_refl _),List.length_map,Nat.sub_self]
      rfl
    have e3:(Ps (init++[(k,o)])).take ((init.length:Int)).toNat=Ps init:=by
      unfold Ps
      rw [Int.toNat_natCast,List.map_append,List.take_left' (List.length_map ..)]
    refine T.ite (fun _=>?_) (fun h=>by have h:=of_decide_eq_false h; have h:¬ ((Ps (init++[(k,o)])).length:Int)>0:=h; omega)
    dsimp only
    rw [e1]
    refine T.eqb e2 (T.grd (by rw [hPl]; simp; omega) ?_)
    rw [e3]
    have skip:sn se[k] o=true→T (some (.inl (se,Ps init):(List Pr×List ad)⊕List Pr)) (Rd (fun s'=>∃ m',m'<mP se (init++[(k,o)])∧∃ se td,s'=(se,Ps td)∧(mP se td=m'∧m'≤B)∧DI c.Steps se td) (fun t=>DI c.Steps t [])):=fun h =>
      T.next ⟨mP se init,by unfold mP at hlen ⊢; omega,se,init,rfl,⟨rfl,by unfold mP at hm hlen ⊢; omega⟩,hd.pop ⟨_,hsk,h⟩⟩
    have go:∀ (o':Bool) (a':Pr),sn se[k] o=false→o'=out o c.Steps[k]→a'=xm se[k] o→T ((dV n c (k:Int)).bind fun nx=>(iter (fun s=>bm n c s) n (se.set ((k:Int)).toNat a',Ps init,o',nx,0)).bind fun ta=>some (.inl (ta.1,ta.2):(List Pr×List ad)⊕List Pr)) (Rd (fun s'=>∃ m',m'<mP se (init++[(k,o)])∧∃ se td,s'=(se,Ps td)∧(mP se td=m'∧m'≤B)∧DI c.Steps se td) (fun t=>DI c.Steps t [])):=fun o' a' hsn ho ha=>by
      subst ho ha
      refine (CX n (by omega) c k hk (by omega)).bind (fun nx hnx=>(d2 n hn c _ init (by omega) _ nx hnx.1 (fun x hx=>(hnx.2.1 x hx).1)).bind (fun t ht=>?_))
      subst ht
      rw [Int.toNat_natCast]
      have h3:=mQ wP se k hks (xm se[k] o)
      have h4:=H4 hsn
      have h5:=hnx.1
      have h6:mP (se.set k (xm se[k] o)) (init++nx.map (fun x=>(x.toNat,out o c.Steps[k])))<mP se (init++[(k,o)]):=by
        rw [hlen]
        unfold mP
        rw [List.length_append,List.length_map]
        omega
      exact T.next ⟨_,h6,_,_,rfl,⟨rfl,by omega⟩,hd.go hsk hs hnx⟩
    cases o with
    | true =>
      refine T.ite (fun _=>T.get k rfl hks (T.ite (fun h=>skip h) (fun h=>T.ite (fun _=>T.get k rfl hk (T.ite (fun h7=>?_) (fun h7=>?_))) (fun h=>by cases h)))) (fun h=>by cases h)
      · exact go _ _ h (ym h7 _).symm rfl
      · exact go _ _ h (by rw [FW h7]; rfl) rfl
    | false =>
      refine T.ite (fun h=>by cases h) (fun _=>T.get k rfl hks (T.ite (fun h=>skip h) (fun h=>T.ite (fun h=>by cases h) (fun _=>T.get k rfl hk (T.eqb (AT n _) (T.ite (fun h7=>?_) (fun h7=>?_)))))))
      · exact go _ _ h (ym h7 _).symm rfl
      · exact go _ _ h (by rw [FW h7]; rfl) rfl
theorem C9 (n:Nat) (hn:1000000<n) (c:ax) (h1:1≤c.Steps.length) (hl:c.Steps.length≤4096):T (lJ n c) (fun y=>y.length=c.Steps.length∧∀ k o,Sn y k o↔D c.Steps k o):=by
  unfold lJ
  have hlen:(List.replicate c.Steps.length (da.mk false false)).length=c.Steps.length:=List.length_replicate
  refine T.grd (by simp [Nat.blt]; omega) ?_
  rw [Int.toNat_natCast]
  have no:∀ k o,¬ Sn (List.replicate c.Steps.length (da.mk false false)) k o:=fun k o ⟨a,h,h2⟩=>by
    have:=List.eq_of_mem_replicate (List.mem_of_getElem? h)
    subst this
    cases o <;> cases h2
  have hd:DI c.Steps (List.replicate c.Steps.length (da.mk false false)) [(0,false)] :=
    ⟨hlen,fun k o h=>(no k o h).elim,fun p hp=>by rw [List.mem_singleton.1 hp]; exact ⟨h1,.zero⟩,.inr (List.mem_singleton.2 rfl),fun k o s h=>(no k o h).elim⟩
  have hm:mP (List.replicate c.Steps.length (da.mk false false)) [(0,false)]≤100000:=by
    have:=qm wP 2 (List.replicate c.Steps.length (da.mk false false)) (fun x _=>by unfold wP; cases x.e0 <;> cases x.e1 <;> decide)
    rw [hlen] at this
    unfold mP
    rw [List.length_singleton]
    omega
  refine (d1 (B:=100000) n (by omega) c hl (Nat.le_refl _) (by omega) _ [(0,false)] hm hd).bind (fun y hy=>T.ret ⟨hy.len,fun k o=>⟨hy.so k o,fun h=>?_⟩⟩)
  induction h with
  | zero =>
    rcases hy.z with h | h
    · exact h
    · cases h
  | step hd hs hsu ih =>
    rcases hy.cl _ _ _ ih hs _ hsu with h | h
    · exact h
    · cases h

end Go.Proofs.Ytaiokpalfdbnnaa
