/- Comparing and copying candidates. Plain law. -/
import Derived.Test.YtcckeabholabcaaGreatX1
namespace Go.Proofs.YtcckeabholabcaaGreat
open Go A

/-- A bool that tells whether P. -/
def l7 (m:Option Bool) (P:Prop):Prop:=∃ r,m=some r∧(r=true↔P)
theorem l7.true_ {m:Option Bool} {P:Prop} (h:l7 m P) (p:P):m=some true:=by
  obtain ⟨r,e,k⟩:=h
  rw [e,k.2 p]
theorem Cx {α:Type} {a b:List α} {step:Int→Option (Int⊕(Unit⊕Unit))} (hl:a.length=b.length) (hst:∀ (i:Nat) (h:i<a.length) (h':i<b.length),∃ r:Bool,step (i:Int)=some (if r=true then .inl ((i + 1:Nat):Int) else .inr (.inr ()))∧(r=true↔a[i]=b[i]))
    (he:step (a.length:Int)=some (.inr (.inl ()))):∀ (k i n:Nat),i + k=a.length→k<n→a.take i=b.take i→∃ t,iter step n (i:Int)=some t∧(t=.inl ()↔a=b)
  | k,i,0,_,h,_=>by omega
  | 0,i,n + 1,hi,_,ht=>by
    have e:i=a.length:=by omega
    subst e
    rw [aQ,he]
    refine ⟨_,rfl,⟨fun _=>?_,fun _=>rfl⟩⟩
    rw [List.take_length,hl,List.take_length] at ht
    exact ht
  | k + 1,i,n + 1,hi,hn,ht=>by
    have h1:i<a.length:=by omega
    have h2:i<b.length:=by omega
    obtain ⟨r,e,hr⟩:=hst i h1 h2
    rw [aQ,e]
    cases r with
    | true =>
      refine Cx hl hst he k (i + 1) n (by omega) (by omega) ?_
      rw [List.take_add_one,List.take_add_one,ht,List.getElem?_eq_getElem h1,List.getElem?_eq_getElem h2,hr.1 rfl]
    | false =>
      refine ⟨_,rfl,⟨fun h=>by simp at h,fun h=>?_⟩⟩
      subst h
      exact absurd (hr.2 rfl) (by simp)
theorem kG {α:Type} {a b:List α} {step:Int→Option (Int⊕(Unit⊕Unit))} {n:Nat} (ha:a.length<n) (hst:a.length=b.length→∀ (i:Nat) (h:i<a.length) (h':i<b.length),∃ r:Bool,step (i:Int)=some (if r=true then .inl ((i + 1:Nat):Int) else .inr (.inr ()))∧(r=true↔a[i]=b[i]))
    (he:step (a.length:Int)=some (.inr (.inl ()))) {f:Unit⊕Unit→Option Bool} {P:Prop} (h1:l7 (f (.inl ())) P) (h2:f (.inr ())=some false):l7 (if ((a.length:Int) != (b.length:Int))=true then some false else (iter step n 0).bind f) (a=b∧P):=by
  by_cases hl:a.length=b.length
  · rw [if_neg (by simp [hl])]
    obtain ⟨t,e,ht⟩:=Cx hl (hst hl) he a.length 0 n (by omega) ha rfl
    have e':iter step n 0=some t:=e
    rw [e',Option.bind_some]
    rcases t with u | u
    · obtain ⟨r,e2,hr⟩:=h1
      exact ⟨r,e2,hr.trans ⟨fun h=>⟨ht.1 rfl,h⟩,fun h=>h.2⟩⟩
    · exact ⟨false,h2,by
        simp only [Bool.false_eq_true,false_iff,not_and]
        intro h
        exact absurd (ht.2 h) (by simp)⟩
  · rw [if_pos (by simp; omega)]
    exact ⟨false,rfl,by
      simp only [Bool.false_eq_true,false_iff,not_and]
      intro h
      rw [h] at hl
      exact absurd rfl hl⟩
theorem f8:l7 (some true) True:=⟨true,rfl,by simp⟩
theorem l7.iff {m:Option Bool} {P Q:Prop} (h:l7 m P) (k:P↔Q):l7 m Q:=by
  obtain ⟨r,e,hr⟩:=h
  exact ⟨r,e,hr.trans k⟩
theorem kH {i:Nat} (h:i<100000):ae .i64 (i:Int) 1=((i + 1:Nat):Int):=by
  rw [AY (by omega) (by omega)]
  omega
theorem pK {i:Nat} {α:Type} {x y:α}:(if decide ((i:Int)<(i:Int))=true then x else y)=y:=if_neg (by simp)
theorem sK {α:Type} {l:List α} {i:Nat} (h:i<l.length):ax l (i:Int)=some l[i]:=by rw [i4,List.getElem?_eq_getElem h]

theorem DL (n:Nat) (a b:List Int) (ha:a.length≤1000) (hn:2000≤n):l7 (eF n a b) (a=b):=by
  unfold eF
  refine (kG (f:=fun t2=>match t2 with | .inl _=>some true | .inr _=>some false) (P:=True) (by omega) (fun hl i h h'=>?_) ?_ f8 rfl).iff (by simp)
  · unfold fW
    rw [if_pos (by simp; omega),sK h,sK h',Option.bind_some,Option.bind_some,kH (by omega)]
    refine ⟨a[i]==b[i],?_,by simp⟩
    cases hc:a[i]==b[i] <;> simp_all
  · unfold fW
    exact pK
theorem Hr (n:Nat) (a b:List Int) (ha:a.length≤1000) (hn:2000≤n):l7 (bF n a b) (a=b):=by
  unfold bF
  refine (kG (f:=fun t2=>match t2 with | .inl _=>some true | .inr _=>some false) (P:=True) (by omega) (fun hl i h h'=>?_) ?_ f8 rfl).iff (by simp)
  · unfold bi
    rw [if_pos (by simp; omega),sK h,sK h',Option.bind_some,Option.bind_some,kH (by omega)]
    refine ⟨a[i]==b[i],?_,by simp⟩
    cases hc:a[i]==b[i] <;> simp_all
  · unfold bi
    exact pK
theorem Li (x y:Cell):Cell.beq x y=true↔x=y:=⟨Cell.beq_eq,fun h=>h▸Cell.beq_refl x⟩
theorem Hs (n:Nat) (a b:List Cell) (ha:a.length≤1000) (hn:2000≤n):l7 (f_ n a b) (a=b):=by
  unfold f_
  refine (kG (f:=fun t2=>match t2 with | .inl _=>some true | .inr _=>some false) (P:=True) (by omega) (fun hl i h h'=>?_) ?_ f8 rfl).iff (by simp)
  · unfold fA
    rw [if_pos (by simp; omega),sK h,sK h',Option.bind_some,Option.bind_some,kH (by omega)]
    refine ⟨Cell.beq a[i] b[i],?_,Li _ _⟩
    cases hc:Cell.beq a[i] b[i] <;> simp
  · unfold fA
    exact pK
theorem Lj (n:Nat) (a b:List Cell) (ha:a.length≤1000) (hn:2000≤n):l7 (cH n a b) (a=b):=by
  unfold cH
  refine (kG (f:=fun t2=>match t2 with | .inl _=>some true | .inr _=>some false) (P:=True) (by omega) (fun hl i h h'=>?_) ?_ f8 rfl).iff (by simp)
  · unfold bS
    rw [if_pos (by simp; omega),sK h,sK h',Option.bind_some,Option.bind_some,kH (by omega)]
    refine ⟨Cell.beq a[i] b[i],?_,Li _ _⟩
    cases hc:Cell.beq a[i] b[i] <;> simp
  · unfold bS
    exact pK
/-- One test, then others. -/
theorem l7.and {m:Option Bool} {f:Bool→Option Bool} {P Q:Prop} (h:l7 m P) (h1:l7 (f true) Q) (h2:f false=some false):l7 (m.bind f) (P∧Q):=by
  obtain ⟨r,e,hr⟩:=h
  rw [e,Option.bind_some]
  cases r with
  | true =>
    have:=hr.1 rfl
    exact h1.iff ⟨fun q=>⟨this,q⟩,fun q=>q.2⟩
  | false =>
    exact ⟨false,h2,by
      simp only [Bool.false_eq_true,false_iff,not_and]
      intro p
      exact absurd (hr.2 p) (by simp)⟩
theorem Lk (n:Nat) (a b:Deps) (h1:a.Addr.length≤1000) (h2:a.Data.length≤1000) (h3:a.Way.length≤1000) (hn:2000≤n):l7 (rt n a b) (a=b):=by
  unfold rt
  refine l7.iff (l7.and (Q:=a.Data=b.Data∧a.Way=b.Way) (DL n _ _ h1 hn) ?_ rfl) ?_
  · rw [if_pos rfl]
    refine l7.and (DL n _ _ h2 hn) ?_ rfl
    rw [if_pos rfl]
    exact l7.iff (l7.and (Q:=True) (DL n _ _ h3 hn) f8 rfl) (by simp)
  · obtain ⟨a1,a2,a3⟩:=a
    obtain ⟨b1,b2,b3⟩:=b
    simp
theorem l8 {b:Bool} {x:Option Bool} {P Q:Prop} (hb:b=true↔P) (h:l7 x Q):l7 (if b=true then x else some false) (P∧Q):=by
  cases b with
  | true =>
    rw [if_pos rfl]
    exact h.iff ⟨fun q=>⟨hb.1 rfl,q⟩,fun q=>q.2⟩
  | false =>
    rw [if_neg (by simp)]
    exact ⟨false,rfl,by
      simp only [Bool.false_eq_true,false_iff,not_and]
      intro p
      exact absurd (hb.2 p) (by simp)⟩
def pL (e:Event):Prop:=e.Deps.Addr.length≤1000∧e.Deps.Data.length≤1000∧e.Deps.Way.length≤1000
theorem J1 (n:Nat) (a b:Event) (h:pL a) (hn:2000≤n):l7 (pO n a b) (a=b):=by
  unfold pO
  refine l7.iff (l7.and (Lk n a.Deps b.Deps h.1 h.2.1 h.2.2 hn) (Q:=a.Hart=b.Hart∧a.At=b.At∧a.Kind=b.Kind∧a.Addr=b.Addr∧a.Load=b.Load∧a.Store=b.Store∧a.Aq=b.Aq∧a.Rl=b.Rl∧a.Pred=b.Pred∧a.Succ=b.Succ∧a.Pair=b.Pair) ?_ rfl) ?_
  · rw [if_pos rfl]
    exact l8 (by simp) (l8 (by simp) (l8 (by simp) (l8 (by simp) (l8 (by simp) (l8 (by simp) (l8 (by simp) (l8 (by simp) (l8 (by simp) (l8 (by simp) ⟨_,rfl,by simp⟩)))))))))
  · obtain ⟨a1,a2,a3,a4,a5,a6,a7,a8,a9,a10,a11,a12⟩:=a
    obtain ⟨b1,b2,b3,b4,b5,b6,b7,b8,b9,b10,b11,b12⟩:=b
    simp only [Event.mk.injEq]
    constructor
    · rintro ⟨h0,h1,h2,h3,h4,h5,h6,h7,h8,h9,h10,h11⟩
      exact ⟨h1,h2,h3,h4,h5,h6,h7,h8,h9,h10,h11,h0⟩
    · rintro ⟨h1,h2,h3,h4,h5,h6,h7,h8,h9,h10,h11,h0⟩
      exact ⟨h0,h1,h2,h3,h4,h5,h6,h7,h8,h9,h10,h11⟩
theorem J2 (n:Nat) (a b:Event) (h:pL a) (hn:2000≤n):l7 (iz n a b) (a=b):=by
  unfold iz i5
  refine l7.iff (l7.and (Hr n _ _ h.1 hn) (Q:=a.Deps.Data=b.Deps.Data∧a.Deps.Way=b.Deps.Way∧(aL.mk a.Hart a.At a.Kind a.Pred a.Succ a.Pair a.Addr a.Load a.Store a.Aq a.Rl)=(aL.mk b.Hart b.At b.Kind b.Pred b.Succ b.Pair b.Addr b.Load b.Store b.Aq b.Rl)) ?_ rfl) ?_
  · rw [if_neg (by simp)]
    refine l7.and (Hr n _ _ h.2.1 hn) ?_ rfl
    rw [if_neg (by simp)]
    refine l7.and (Hr n _ _ h.2.2 hn) ?_ rfl
    rw [if_neg (by simp),Option.bind_some,Option.bind_some]
    exact (l8 (P:=(aL.mk a.Hart a.At a.Kind a.Pred a.Succ a.Pair a.Addr a.Load a.Store a.Aq a.Rl)=(aL.mk b.Hart b.At b.Kind b.Pred b.Succ b.Pair b.Addr b.Load b.Store b.Aq b.Rl)) ⟨aL.beq_eq,fun h=>by rw [h]; exact aL.beq_refl _⟩ f8).iff (by simp)
  · obtain ⟨a1,a2,a3,a4,a5,a6,a7,a8,a9,a10,a11,a12,a13,a14⟩:=a
    obtain ⟨b1,b2,b3,b4,b5,b6,b7,b8,b9,b10,b11,b12,b13,Lc⟩:=b
    simp only [Event.mk.injEq,Deps.mk.injEq,aL.mk.injEq]
    constructor
    · rintro ⟨h0,h1,h2,h3,h4,h5,h6,h7,h8,h9,h10,h11,h12,h13⟩
      exact ⟨h3,h4,h5,h9,h10,h11,h12,h13,h6,h7,h8,h0,h1,h2⟩
    · rintro ⟨h3,h4,h5,h9,h10,h11,h12,h13,h6,h7,h8,h0,h1,h2⟩
      exact ⟨h0,h1,h2,h3,h4,h5,h6,h7,h8,h9,h10,h11,h12,h13⟩
theorem AX (n:Nat) (a b:List Event) (ha:a.length≤1000) (hs:∀ e∈a,pL e) (hn:2000≤n):l7 (lz n a b) (a=b):=by
  unfold lz
  refine (kG (f:=fun t2=>match t2 with | .inl _=>some true | .inr _=>some false) (P:=True) (by omega) (fun hl i h h'=>?_) ?_ f8 rfl).iff (by simp)
  · obtain ⟨r,e,hr⟩:=J1 n a[i] b[i] (hs _ (List.getElem_mem h)) hn
    unfold ij
    rw [if_pos (by simp; omega),sK h,sK h',Option.bind_some,Option.bind_some,e,Option.bind_some,kH (by omega)]
    refine ⟨r,?_,hr⟩
    cases r <;> rfl
  · unfold ij
    exact pK
theorem Ij (n:Nat) (a b:List Event) (ha:a.length≤1000) (hs:∀ e∈a,pL e) (hn:2000≤n):l7 (mi n a b) (a=b):=by
  unfold mi bu
  refine ((l7.and (Q:=True) (P:=a=b∧True) (kG (f:=fun t2=>match t2 with | .inl _=>some true | .inr _=>some false) (P:=True) (by omega) (fun hl i h h'=>?_) ?_ f8 rfl)) f8 rfl).iff (by simp)
  · obtain ⟨r,e,hr⟩:=J2 n a[i] b[i] (hs _ (List.getElem_mem h)) hn
    unfold aA
    rw [if_pos (by simp; omega),sK h,sK h',Option.bind_some,Option.bind_some,e,Option.bind_some,kH (by omega)]
    refine ⟨r,?_,hr⟩
    cases r <;> rfl
  · unfold aA
    exact pK
theorem vx {e:Event} (h:small e):pL e:=⟨by have:=h.1; omega,by have:=h.2.1; omega,by have:=h.2.2; omega⟩
theorem Ht (a b:ai):(a.First=b.First∧a.Harts=b.Harts∧a.From=b.From∧a.Order=b.Order)↔a=b:=by
  obtain ⟨a1,a2,a3,a4⟩:=a
  obtain ⟨b1,b2,b3,b4⟩:=b
  simp
theorem Ll (n:Nat) (a b:ai) (hc:gJ a) (hn:2000≤n):l7 (mY n a b) (a=b):=by
  unfold mY
  refine l7.iff ?_ (Ht a b)
  refine l7.and (Lj n _ _ (by have:=hc.first; omega) hn) ?_ rfl
  rw [if_pos rfl]
  refine l7.and (P:=a.Harts=b.Harts) ?_ ?_ rfl
  · unfold bz
    refine (kG (f:=fun t2=>match t2 with | .inl _=>some true | .inr _=>some false) (P:=True) (by have:=hc.harts; omega) (fun hl i h h'=>?_) ?_ f8 rfl).iff (by simp)
    · have hs:=hc.rows _ (List.getElem_mem h)
      obtain ⟨r,e,hr⟩:=Ij n a.Harts[i] b.Harts[i] (by have:=hs.1; omega) (fun e he=>vx (hs.2 e he)) hn
      unfold aB
      rw [if_pos (by simp; omega),sK h,sK h',Option.bind_some,Option.bind_some,e,Option.bind_some,kH (by have:=hc.harts; omega)]
      refine ⟨r,?_,hr⟩
      cases r <;> rfl
    · unfold aB
      exact pK
  · rw [if_pos rfl]
    refine l7.and (Hr n _ _ (by have:=hc.from_; omega) hn) ?_ rfl
    rw [if_pos rfl]
    exact l7.iff (l7.and (Hr n _ _ (by have:=hc.order; omega) hn) (Q:=True) f8 rfl) (by simp)
theorem Lm (n:Nat) (a b:ai) (hc:gJ a) (hn:2000≤n):l7 (oI n a b) (a=b):=by
  unfold oI
  refine (kG (f:=fun t2=>match t2 with | .inl _=>_ | .inr _=>some false) (P:=a.First=b.First∧a.From=b.From∧a.Order=b.Order) (by have:=hc.harts; omega) (fun hl i h h'=>?_) ?_ ?_ rfl).iff ?_
  · have hs:=hc.rows _ (List.getElem_mem h)
    obtain ⟨r,e,hr⟩:=AX n a.Harts[i] b.Harts[i] (by have:=hs.1; omega) (fun e he=>vx (hs.2 e he)) hn
    unfold km
    rw [if_pos (by simp; omega),sK h,sK h',Option.bind_some,Option.bind_some,e,Option.bind_some,kH (by have:=hc.harts; omega)]
    refine ⟨r,?_,hr⟩
    cases r <;> rfl
  · unfold km
    exact pK
  · refine l7.and (Hs n _ _ (by have:=hc.first; omega) hn) ?_ rfl
    rw [if_pos rfl]
    refine l7.and (DL n _ _ (by have:=hc.from_; omega) hn) ?_ rfl
    rw [if_pos rfl]
    exact l7.iff (l7.and (DL n _ _ (by have:=hc.order; omega) hn) (Q:=True) f8 rfl) (by simp)
  · rw [← Ht a b]
    constructor
    · rintro ⟨h1,h2,h3,h4⟩
      exact ⟨h2,h1,h3,h4⟩
    · rintro ⟨h2,h1,h3,h4⟩
      exact ⟨h1,h2,h3,h4⟩

/-! ### Copies -/
theorem Ra (l:List Int) (h:l.length≤1000):Nat.ble (l.length * 8) 140737488355328=true:=fB (by omega)
theorem Hu (n:Nat) (l:List Int) (h:l.length≤1000):fC n l=some l:=by
  unfold fC
  rw [fx (Ra l h)]
theorem Ln (n:Nat) (l:List Cell) (h:l.length≤1000):kX n l=some l:=by
  unfold kX
  rw [fx (fB (by omega))]
theorem J3 (n:Nat) (e:Event) (h:pL e):kY n e=some e:=by
  unfold kY oH
  rw [Hu n _ h.1,Hu n _ h.2.1,Hu n _ h.2.2]
  rfl
/-- A list built up element by element. -/
theorem tU {α β:Type} {l:List α} {r:List β} {step:List β×Int→Option ((List β×Int)⊕List β)} (hl:l.length=r.length) (hst:∀ (i:Nat),i<l.length→∀ h':i<r.length,step (r.take i,(i:Int))=some (.inl (r.take i++[r[i]],((i + 1:Nat):Int)))) (he:step (r,(l.length:Int))=some (.inr r)):∀ (k i n:Nat),i + k=l.length→k<n→iter step n (r.take i,(i:Int))=some r
  | k,i,0,_,h=>by omega
  | 0,i,n + 1,hi,_=>by
    have e:i=l.length:=by omega
    subst e
    rw [aQ,hl,List.take_length,← hl,he]
  | k + 1,i,n + 1,hi,hn=>by
    have h1:i<l.length:=by omega
    have h2:i<r.length:=by omega
    rw [aQ,hst i h1 h2]
    have e:r.take i++[r[i]]=r.take (i + 1):=by rw [List.take_add_one,List.getElem?_eq_getElem h2]; rfl
    rw [e]
    exact tU hl hst he k (i + 1) n (by omega) (by omega)
theorem Ik (n:Nat) (l:List Event) (hl:l.length≤1000) (hs:∀ e∈l,pL e) (hn:2000≤n):j0 n l=some l:=by
  unfold j0
  have:=tU (l:=l) (r:=l) (step:=fun s=>dK n l s) rfl (fun i h h'=>?_) ?_ l.length 0 n (by omega) (by omega)
  · have e:iter (fun s=>dK n l s) n (([]:List Event),0)=some l:=this
    rw [e,Option.bind_some]
  · unfold dK
    dsimp only
    rw [if_pos (by simp; omega),sK h,Option.bind_some,J3 n _ (hs _ (List.getElem_mem h)),Option.bind_some,fx (fB (by rw [List.length_take]; omega)),kH (by omega)]
  · unfold dK
    exact pK
theorem Lo (n:Nat) (c:ai) (hc:gJ c) (hn:2000≤n):kj n c=some c:=by
  unfold kj
  have h9:=hc.harts
  rw [Ln n _ (by have:=hc.first; omega),Hu n _ (by have:=hc.from_; omega),Hu n _ (by have:=hc.order; omega),Option.bind_some,Option.bind_some,Option.bind_some]
  have:=tU (l:=c.Harts) (r:=c.Harts) (step:=fun s=>eQ n c c.First c.From c.Order s) rfl (fun i h h'=>?_) ?_ c.Harts.length 0 n (by omega) (by omega)
  · have e:iter (fun s=>eQ n c c.First c.From c.Order s) n (([]:List (List Event)),0)=some c.Harts:=this
    rw [e,Option.bind_some]
  · have hs:=hc.rows _ (List.getElem_mem h)
    unfold eQ
    dsimp only
    rw [if_pos (by simp; omega),sK h,Option.bind_some,Ik n _ (by have:=hs.1; omega) (fun e he=>vx (hs.2 e he)) hn,Option.bind_some,fx (fB (by rw [List.length_take]; omega)),kH (by omega)]
  · unfold eQ
    exact pK
end Go.Proofs.YtcckeabholabcaaGreat
