/- Comparing and copying candidates. Plain law. -/
import Derived.Test.YtcckeabholabcaaX1
namespace Go.Proofs.Ytcckeabholabcaa
open Go A

/-- A bool that tells whether P. -/
def CW (m:Option Bool) (P:Prop):Prop:=∃ r,m=some r∧(r=true↔P)
theorem CW.true_ {m:Option Bool} {P:Prop} (h:CW m P) (p:P):m=some true:=by
  obtain ⟨r,e,k⟩:=h
  rw [e,k.2 p]
theorem zV {α:Type} {a b:List α} {step:Int→Option (Int⊕(Unit⊕Unit))} (hl:a.length=b.length) (hst:∀ (i:Nat) (h:i<a.length) (h':i<b.length),∃ r:Bool,step (i:Int)=some (if r=true then .inl ((i + 1:Nat):Int) else .inr (.inr ()))∧(r=true↔a[i]=b[i]))
    (he:step (a.length:Int)=some (.inr (.inl ()))):∀ (k i n:Nat),i + k=a.length→k<n→a.take i=b.take i→∃ t,iter step n (i:Int)=some t∧(t=.inl ()↔a=b)
  | k,i,0,_,h,_=>by omega
  | 0,i,n + 1,hi,_,ht=>by
    have e:i=a.length:=by omega
    subst e
    rw [aZ,he]
    refine ⟨_,rfl,⟨fun _=>?_,fun _=>rfl⟩⟩
    rw [List.take_length,hl,List.take_length] at ht
    exact ht
  | k + 1,i,n + 1,hi,hn,ht=>by
    have h1:i<a.length:=by omega
    have h2:i<b.length:=by omega
    obtain ⟨r,e,hr⟩:=hst i h1 h2
    rw [aZ,e]
    cases r with
    | true =>
      refine zV hl hst he k (i + 1) n (by omega) (by omega) ?_
      rw [List.take_add_one,List.take_add_one,ht,List.getElem?_eq_getElem h1,List.getElem?_eq_getElem h2,hr.1 rfl]
    | false =>
      refine ⟨_,rfl,⟨fun h=>by simp at h,fun h=>?_⟩⟩
      subst h
      exact absurd (hr.2 rfl) (by simp)
theorem Ev {α:Type} {a b:List α} {step:Int→Option (Int⊕(Unit⊕Unit))} {n:Nat} (ha:a.length<n) (hst:a.length=b.length→∀ (i:Nat) (h:i<a.length) (h':i<b.length),∃ r:Bool,step (i:Int)=some (if r=true then .inl ((i + 1:Nat):Int) else .inr (.inr ()))∧(r=true↔a[i]=b[i]))
    (he:step (a.length:Int)=some (.inr (.inl ()))) {f:Unit⊕Unit→Option Bool} {P:Prop} (h1:CW (f (.inl ())) P) (h2:f (.inr ())=some false):CW (if ((a.length:Int) != (b.length:Int))=true then some false else (iter step n 0).bind f) (a=b∧P):=by
  by_cases hl:a.length=b.length
  · rw [if_neg (by simp [hl])]
    obtain ⟨t,e,ht⟩:=zV hl (hst hl) he a.length 0 n (by omega) ha rfl
    have e':iter step n 0=some t:=e
    rw [e',Option.bind_some]
    rcases t with u | u
    · obtain ⟨r,e2,hr⟩:=h1
      exact ⟨r,e2,hr.trans ⟨fun h=>⟨ht.1 rfl,h⟩,fun h=>h.2⟩⟩
    · exact ⟨false,h2,by
        simp only [Bool.false_eq_true,false_iff,not_and]
        intro h
        exact absurd (ht.2 h) (by simp)⟩
  · rw [if_pos (by simp; omega)]
    exact ⟨false,rfl,by
      simp only [Bool.false_eq_true,false_iff,not_and]
      intro h
      rw [h] at hl
      exact absurd rfl hl⟩
theorem Ew:CW (some true) True:=⟨true,rfl,by simp⟩
theorem CW.iff {m:Option Bool} {P Q:Prop} (h:CW m P) (k:P↔Q):CW m Q:=by
  obtain ⟨r,e,hr⟩:=h
  exact ⟨r,e,hr.trans k⟩
theorem pY {i:Nat} (h:i<100000):ae .i64 (i:Int) 1=((i + 1:Nat):Int):=by
  rw [yb (by omega) (by omega)]
  omega
theorem FA {i:Nat} {α:Type} {x y:α}:(if decide ((i:Int)<(i:Int))=true then x else y)=y:=if_neg (by simp)
theorem Hb {α:Type} {l:List α} {i:Nat} (h:i<l.length):aN l (i:Int)=some l[i]:=by rw [jL,List.getElem?_eq_getElem h]
theorem Kn (x y:Cell):Cell.beq x y=true↔x=y:=⟨Cell.beq_eq,fun h=>h▸Cell.beq_refl x⟩
theorem KR (n:Nat) (a b:List Cell) (ha:a.length≤1000) (hn:2000≤n):CW (iN n a b) (a=b):=by
  unfold iN
  refine (Ev (f:=fun t2=>match t2 with | .inl _=>some true | .inr _=>some false) (P:=True) (by omega) (fun hl i h h'=>?_) ?_ Ew rfl).iff (by simp)
  · unfold eK
    rw [if_pos (by simp; omega),Hb h,Hb h',Option.bind_some,Option.bind_some,pY (by omega)]
    refine ⟨Cell.beq a[i] b[i],?_,Kn _ _⟩
    cases hc:Cell.beq a[i] b[i] <;> simp
  · unfold eK
    exact FA
/-- One test, then others. -/
theorem CW.and {m:Option Bool} {f:Bool→Option Bool} {P Q:Prop} (h:CW m P) (h1:CW (f true) Q) (h2:f false=some false):CW (m.bind f) (P∧Q):=by
  obtain ⟨r,e,hr⟩:=h
  rw [e,Option.bind_some]
  cases r with
  | true =>
    have:=hr.1 rfl
    exact h1.iff ⟨fun q=>⟨this,q⟩,fun q=>q.2⟩
  | false =>
    exact ⟨false,h2,by
      simp only [Bool.false_eq_true,false_iff,not_and]
      intro p
      exact absurd (hr.2 p) (by simp)⟩
def Hc (e:Event):Prop:=e.Deps.Addr.length≤1000∧e.Deps.Data.length≤1000∧e.Deps.Way.length≤1000
theorem Ii {e:Event} (h:small e):Hc e:=⟨by have:=h.1; omega,by have:=h.2.1; omega,by have:=h.2.2; omega⟩
/-- A list built up element by element. -/
theorem CX {α β:Type} {l:List α} {r:List β} {step:List β×Int→Option ((List β×Int)⊕List β)} (hl:l.length=r.length) (hst:∀ (i:Nat),i<l.length→∀ h':i<r.length,step (r.take i,(i:Int))=some (.inl (r.take i++[r[i]],((i + 1:Nat):Int)))) (he:step (r,(l.length:Int))=some (.inr r)):∀ (k i n:Nat),i + k=l.length→k<n→iter step n (r.take i,(i:Int))=some r
  | k,i,0,_,h=>by omega
  | 0,i,n + 1,hi,_=>by
    have e:i=l.length:=by omega
    subst e
    rw [aZ,hl,List.take_length,← hl,he]
  | k + 1,i,n + 1,hi,hn=>by
    have h1:i<l.length:=by omega
    have h2:i<r.length:=by omega
    rw [aZ,hst i h1 h2]
    have e:r.take i++[r[i]]=r.take (i + 1):=by rw [List.take_add_one,List.getElem?_eq_getElem h2]; rfl
    rw [e]
    exact CX hl hst he k (i + 1) n (by omega) (by omega)

end Go.Proofs.Ytcckeabholabcaa
