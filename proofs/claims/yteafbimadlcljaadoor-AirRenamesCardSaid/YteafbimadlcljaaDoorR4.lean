/- A renamed code is like the code -/
import Derived.Test.YteafbimadlcljaaDoorR3
namespace Go.Proofs.YteafbimadlcljaaDoor
open Go A

theorem kN:∀ (l:List (Int×Int)) (k v q:Int),bT bK (kn bK l k v) q=if q=k then some v else bT bK l q
  | [],k,v,q=>by
    unfold kn bT bT bK
    by_cases h:q=k <;> simp [h]
  | e::l,k,v,q=>by
    unfold kn
    split
    · rename_i h
      have h:k=e.1:=by simpa [bK] using h
      unfold bT bK
      by_cases h2:q=k
      · simp [h2]
      · have:¬ q=e.1:=by omega
        simp [h2,this]
    · rename_i h
      have h:¬ k=e.1:=by simpa [bK] using h
      unfold bT
      rw [kN l k v q]
      by_cases h2:q=e.1
      · have:¬ q=k:=by omega
        simp [bK,h2]
        omega
      · simp [bK,h2]
structure MI (R:Nat) (f g:Int→Int) (to bk:List (Int×Int)):Prop where
  t:∀ a b,bT bK to a=some b→b=f a
  b:∀ b a,bT bK bk b=some a→a=g b
  s:∀ a:Int,0≤a→a<(R:Int)→(bT bK to a).isSome=(bT bK bk (f a)).isSome
theorem MI.put {R:Nat} {f g:Int→Int} (hf:Ren R f g) {to bk:List (Int×Int)} (h:MI R f g to bk) {a:Int} (ha:0≤a∧a<(R:Int)):MI R f g (kn bK to a (f a)) (kn bK bk (f a) a):=by
  refine ⟨fun q b hq=>?_,fun b q hq=>?_,fun q h1 h2=>?_⟩
  · rw [kN] at hq
    split at hq
    · rename_i e
      cases hq
      rw [e]
    · exact h.t q b hq
  · rw [kN] at hq
    split at hq
    · rename_i e
      cases hq
      rw [e,hf.gf a ha.1 ha.2]
    · exact h.b b q hq
  · rw [kN,kN]
    have e:=hf.inj ⟨h1,h2⟩ ha
    by_cases hq:q=a
    · rw [if_pos hq,if_pos (e.2 hq)]
      rfl
    · rw [if_neg hq,if_neg (fun h=>hq (e.1 h))]
      exact h.s q h1 h2
theorem D3 {R:Nat} {f g:Int→Int} (hf:Ren R f g) (n:Nat) {to bk:List (Int×Int)} (h:MI R f g to bk) {a:Int} (ha:0≤a∧a<(R:Int)) (c1 c2 c3 c4 c5 c6 c7 c8:Int) (c9:Bool) (d1 d2 d3 d4 d5 d6 d7 d8:Int) (d9:Bool) :
    T (bE n a (f a) to bk c1 c2 c3 c4 c5 c6 c7 c8 c9 d1 d2 d3 d4 d5 d6 d7 d8 d9) (fun y=>y.1=true∧MI R f g y.2.1 y.2.2):=by
  have hs:=h.s a ha.1 ha.2
  unfold bE
  cases h1:bT bK to a with
  | none =>
    rw [h1] at hs
    cases h2:bT bK bk (f a) with
    | none=>exact T.ret ⟨rfl,h.put hf ha⟩
    | some x =>
      rw [h2] at hs
      cases hs
  | some b =>
    rw [h1] at hs
    cases h2:bT bK bk (f a) with
    | none =>
      rw [h2] at hs
      cases hs
    | some x =>
      have e1:=h.t a b h1
      have e2:=h.b (f a) x h2
      rw [hf.gf a ha.1 ha.2] at e2
      subst e1 e2
      simp
      exact T.ret ⟨rfl,h⟩
theorem Gd (op:Int):((dY .i64 (b7 op) 1)==0)=!nC op∧((dY .i64 (b7 op) 2)==0)=!hB op∧((dY .i64 (b7 op) 4)==0)=!hC op∧((dY .i64 (b7 op) 8)==0)=!hD op:=by
  rcases aj op with h | h | h | h | h | h | h | h | h | h | h
  case inr.inr.inr.inr.inr.inr.inr.inr.inr.inr =>
    have e0:b7 op=0:=by unfold b7; repeat (rw [if_neg (by omega)])
    have e1:nC op=false:=by unfold nC; simp; omega
    have e2:hB op=false:=by unfold hB; simp; omega
    have e3:hC op=false:=by unfold hC; simp; omega
    have e4:hD op=false:=by unfold hD; simp; omega
    rw [e0,e1,e2,e3,e4]
    decide
  all_goals subst h; decide
theorem Ge {R:Nat} {f g:Int→Int} (hf:Ren R f g) (n:Nat) (hn:10≤n) (x:ab) (hx:r5 x R) {to bk:List (Int×Int)} (h:MI R f g to bk) :
    T (iter (fun s=>ew n x (b8 f x) (b7 x.Op) s) n (to,bk,(b8 f x).A_,(b8 f x).B,(b8 f x).C_,(b8 f x).D,0)) (Rd (fun w=>∃ to bk,w=(to,bk,x.A_,x.B,x.C_,x.D)∧MI R f g to bk) (fun _=>False)):=by
  obtain ⟨b1,b2,b3,b4⟩:=Gd x.Op
  rw [m2] at hx
  obtain ⟨x1,x2,x3,x4⟩:=hx
  refine T.loop 4 (fun i s=>∃ to bk,s=(to,bk,(if 0<i then x.A_ else (b8 f x).A_),(if 1<i then x.B else (b8 f x).B),(if 2<i then x.C_ else (b8 f x).C_),(if 3<i then x.D else (b8 f x).D),(i:Int))∧MI R f g to bk) _ (fun i s hi hs=>?_) ⟨to,bk,rfl,h⟩ (by omega)
  clear h
  obtain ⟨to,bk,rfl,h⟩:=hs
  unfold ew
  obtain rfl | rfl | rfl | rfl | rfl:i=0∨i=1∨i=2∨i=3∨i=4:=by omega
  · refine T.ite (fun _=>T.ite (fun _=>T.ite (fun hb=>?_) (fun hb=>?_)) (fun h=>by cases h)) (fun h=>by cases h)
    · rw [b1,Bool.not_eq_true'] at hb
      exact T.next ⟨by omega,to,bk,by show _=(to,bk,x.A_,_,_,_,_); rw [show x.A_=(b8 f x).A_ by show _=(if nC x.Op=true then f x.A_ else x.A_); rw [if_neg (by rw [hb]; exact Bool.false_ne_true)]]; rfl,h⟩
    · rw [b1,Bool.not_eq_false'] at hb
      have e:(b8 f x).A_=f x.A_:=if_pos hb
      show T ((bE n x.A_ (b8 f x).A_ _ _ _ _ _ _ _ _ _ _ _ _ _ _ _ _ _ _ _ _).bind _) _
      rw [e]
      refine (D3 hf n h (x1 hb) _ _ _ _ _ _ _ _ _ _ _ _ _ _ _ _ _ _).bind (fun y hy=>T.ite (fun hc=>?_) (fun _=>T.next ⟨by omega,y.2.1,y.2.2,rfl,hy.2⟩))
      rw [hy.1] at hc
      cases hc
  · refine T.ite (fun _=>T.ite (fun h=>by cases h) (fun _=>T.ite (fun _=>T.ite (fun hb=>?_) (fun hb=>?_)) (fun h=>by cases h))) (fun h=>by cases h)
    · rw [b2,Bool.not_eq_true'] at hb
      exact T.next ⟨by omega,to,bk,by show _=(to,bk,x.A_,x.B,_,_,_); rw [show x.B=(b8 f x).B by show _=(if hB x.Op=true then f x.B else x.B); rw [if_neg (by rw [hb]; exact Bool.false_ne_true)]]; rfl,h⟩
    · rw [b2,Bool.not_eq_false'] at hb
      have e:(b8 f x).B=f x.B:=if_pos hb
      show T ((bE n x.B (b8 f x).B _ _ _ _ _ _ _ _ _ _ _ _ _ _ _ _ _ _ _ _).bind _) _
      rw [e]
      refine (D3 hf n h (x2 hb) _ _ _ _ _ _ _ _ _ _ _ _ _ _ _ _ _ _).bind (fun y hy=>T.ite (fun hc=>?_) (fun _=>T.next ⟨by omega,y.2.1,y.2.2,rfl,hy.2⟩))
      rw [hy.1] at hc
      cases hc
  · refine T.ite (fun _=>T.ite (fun h=>by cases h) (fun _=>T.ite (fun h=>by cases h) (fun _=>T.ite (fun _=>T.ite (fun hb=>?_) (fun hb=>?_)) (fun h=>by cases h)))) (fun h=>by cases h)
    · rw [b3,Bool.not_eq_true'] at hb
      exact T.next ⟨by omega,to,bk,by show _=(to,bk,x.A_,x.B,x.C_,_,_); rw [show x.C_=(b8 f x).C_ by show _=(if hC x.Op=true then f x.C_ else x.C_); rw [if_neg (by rw [hb]; exact Bool.false_ne_true)]]; rfl,h⟩
    · rw [b3,Bool.not_eq_false'] at hb
      have e:(b8 f x).C_=f x.C_:=if_pos hb
      show T ((bE n x.C_ (b8 f x).C_ _ _ _ _ _ _ _ _ _ _ _ _ _ _ _ _ _ _ _ _).bind _) _
      rw [e]
      refine (D3 hf n h (x3 hb) _ _ _ _ _ _ _ _ _ _ _ _ _ _ _ _ _ _).bind (fun y hy=>T.ite (fun hc=>?_) (fun _=>T.next ⟨by omega,y.2.1,y.2.2,rfl,hy.2⟩))
      rw [hy.1] at hc
      cases hc
  · refine T.ite (fun _=>T.ite (fun h=>by cases h) (fun _=>T.ite (fun h=>by cases h) (fun _=>T.ite (fun h=>by cases h) (fun _=>T.ite (fun _=>T.ite (fun hb=>?_) (fun hb=>?_)) (fun h=>by cases h))))) (fun h=>by cases h)
    · rw [b4,Bool.not_eq_true'] at hb
      exact T.next ⟨by omega,to,bk,by show _=(to,bk,x.A_,x.B,x.C_,x.D,_); rw [show x.D=(b8 f x).D by show _=(if hD x.Op=true then f x.D else x.D); rw [if_neg (by rw [hb]; exact Bool.false_ne_true)]]; rfl,h⟩
    · rw [b4,Bool.not_eq_false'] at hb
      have e:(b8 f x).D=f x.D:=if_pos hb
      show T ((bE n x.D (b8 f x).D _ _ _ _ _ _ _ _ _ _ _ _ _ _ _ _ _ _ _ _).bind _) _
      rw [e]
      refine (D3 hf n h (x4 hb) _ _ _ _ _ _ _ _ _ _ _ _ _ _ _ _ _ _).bind (fun y hy=>T.ite (fun hc=>?_) (fun _=>T.next ⟨by omega,y.2.1,y.2.2,rfl,hy.2⟩))
      rw [hy.1] at hc
      cases hc
  · exact T.ite (fun h=>by cases h) (fun _=>T.fin ⟨to,bk,rfl,h⟩)
theorem FC {R:Nat} {f g:Int→Int} (hf:Ren R f g) (n:Nat) (hn:10≤n) (x:ab) (hx:r5 x R) {to bk:List (Int×Int)} (h:MI R f g to bk):T (gn n x (b8 f x) to bk) (fun r=>∃ z,r=.inl z∧z.1=true∧MI R f g z.2.1 z.2.2.1):=by
  unfold gn
  refine T.ite (fun hne=>?_) (fun _=>T.eqb (oZ n x.Op) ((Ge hf n hn x hx h).bind (fun t ht=>?_)))
  · simp [b8] at hne
  · cases t with
    | inr w=>exact ht.elim
    | inl w =>
      obtain ⟨to',bk',rfl,h2⟩:=ht
      refine T.ite (fun _=>T.ret ⟨_,rfl,rfl,h2⟩) (fun hne=>?_)
      have:ab.beq x (ab.mk (b8 f x).Op x.A_ x.B x.C_ x.D (b8 f x).Imm (b8 f x).Bin (b8 f x).To (b8 f x).Shared)=true:=ab.beq_refl x
      have hne:ab.beq x (ab.mk (b8 f x).Op x.A_ x.B x.C_ x.D (b8 f x).Imm (b8 f x).Bin (b8 f x).To (b8 f x).Shared)=false:=hne
      rw [this] at hne
      cases hne
theorem EC {R:Nat} {f g:Int→Int} (hf:Ren R f g) (n:Nat) (hn:200≤n) (c:bh) (hl:c.Steps.length≤120) (hok:zT c R):ku n c (iA f c)=some true:=by
  have:T (ku n c (iA f c)) (fun y=>y=true):=by
    unfold ku aS
    have hlen:(iA f c).Steps.length=c.Steps.length:=by
      show (c.Steps.map (b8 f)).length=_
      rw [List.length_map]
    rw [hlen,if_neg (by simp)]
    refine T.bind (P:=fun y=>y.1=true) ?_ (fun y hy=>T.ret hy)
    refine T.bind (P:=Rd (fun _=>True) (fun _=>False)) ?_ (fun t ht=>by
      cases t with
      | inl w=>exact T.ret rfl
      | inr w=>exact ht.elim)
    refine T.loop c.Steps.length (fun i s=>∃ to bk,s=(to,bk,(i:Int))∧MI R f g to bk) _ (fun i s hi hs=>?_) ⟨[],[],rfl,⟨fun a b h=>(by cases h),fun a b h=>(by cases h),fun a _ _=>rfl⟩⟩ (by omega)
    obtain ⟨to,bk,rfl,h⟩:=hs
    unfold ax
    refine T.ite (fun h1=>?_) (fun _=>T.fin trivial)
    rw [decide_eq_true_eq] at h1
    have hi':i<c.Steps.length:=by simpa using h1
    refine T.get i rfl hi' (T.get i rfl (by rw [hlen]; exact hi') ?_)
    have e:(iA f c).Steps[i]'(by rw [hlen]; exact hi')=b8 f c.Steps[i]:=by
      have hk':i<(c.Steps.map (b8 f)).length:=by rw [List.length_map]; exact hi'
      show (c.Steps.map (b8 f))[i]'hk'=_
      rw [List.getElem_map]
    rw [e]
    refine (FC hf n (by omega) _ (hok i hi') h).bind (fun r hr=>?_)
    obtain ⟨z,rfl,h2,h3⟩:=hr
    refine T.ite (fun hb=>?_) (fun _=>T.next ⟨hi',z.2.1,z.2.2.1,by rw [← ga i (by omega)],h3⟩)
    rw [h2] at hb
    cases hb
  obtain ⟨y,hy,rfl⟩:=this
  exact hy
theorem Gf (n:Nat) (hn:200≤n) (c d:bh) (hl:c.Steps.length≤120):∃ y,kw n c d=some y∧rJ n c d=some y:=by
  have e:rJ n c d=kw n c d:=rfl
  rw [e]
  suffices h:T (kw n c d) (fun _=>True) by
    obtain ⟨y,hy,_⟩:=h
    exact ⟨y,hy,hy⟩
  unfold kw
  refine T.ite (fun _=>?_) (fun _=>T.ret trivial)
  refine T.bind (P:=fun _=>True) ?_ (fun _ _=>T.ret trivial)
  unfold bY
  refine T.ite (fun _=>T.ret trivial) (fun hne=>?_)
  have hlen:c.Steps.length=d.Steps.length:=by simp at hne; omega
  refine T.bind (P:=fun _=>True) ?_ (fun t _=>by cases t <;> exact T.ret trivial)
  refine T.loop c.Steps.length (fun i s=>s=(i:Int)) _ (fun i s hi hs=>?_) rfl (by omega)
  subst hs
  unfold bm
  refine T.ite (fun h1=>?_) (fun _=>T.fin trivial)
  rw [decide_eq_true_eq] at h1
  have hi':i<c.Steps.length:=by omega
  exact T.get i rfl hi' (T.get i rfl (by omega) (T.ite (fun _=>T.fin trivial) (fun _=>T.next ⟨hi',ga i (by omega)⟩)))

end Go.Proofs.YteafbimadlcljaaDoor
