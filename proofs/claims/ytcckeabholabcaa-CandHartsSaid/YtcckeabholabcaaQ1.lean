/- Comparing and copying candidates. Plain law. -/
import Derived.Test.YtcckeabholabcaaX1
namespace Go.Proofs.Ytcckeabholabcaa
open Go A

/-- A bool that tells whether P. -/
def C2 (m:Option Bool) (P:Prop):Prop:=∃ r,m=some r∧(r=true↔P)
theorem C2.true_ {m:Option Bool} {P:Prop} (h:C2 m P) (p:P):m=some true:=by
  obtain ⟨r,e,k⟩:=h
  rw [e,k.2 p]
theorem z2 {α:Type} {a b:List α} {step:Int→Option (Int⊕(Unit⊕Unit))} (hl:a.length=b.length) (hst:∀ (i:Nat) (h:i<a.length) (h':i<b.length),∃ r:Bool,step (i:Int)=some (if r=true then .inl ((i + 1:Nat):Int) else .inr (.inr ()))∧(r=true↔a[i]=b[i]))
    (he:step (a.length:Int)=some (.inr (.inl ()))):∀ (k i n:Nat),i + k=a.length→k<n→a.take i=b.take i→∃ t,iter step n (i:Int)=some t∧(t=.inl ()↔a=b)
  | k,i,0,_,h,_=>by omega
  | 0,i,n + 1,hi,_,ht=>by
    have e:i=a.length:=by omega
    subst e
    rw [aY,he]
    refine ⟨_,rfl,⟨fun _=>?_,fun _=>rfl⟩⟩
    rw [List.take_length,hl,List.take_length] at ht
    exact ht
  | k + 1,i,n + 1,hi,hn,ht=>by
    have h1:i<a.length:=by omega
    have h2:i<b.length:=by omega
    obtain ⟨r,e,hr⟩:=hst i h1 h2
    rw [aY,e]
    cases r with
    | true =>
      refine z2 hl hst he k (i + 1) n (by omega) (by omega) ?_
      rw [List.take_add_one,List.take_add_one,ht,List.getElem?_eq_getElem h1,List.getElem?_eq_getElem h2,hr.1 rfl]
    | false =>
      refine ⟨_,rfl,⟨fun h=>by simp at h,fun h=>?_⟩⟩
      subst h
      exact absurd (hr.2 rfl) (by simp)
theorem EJ {α:Type} {a b:List α} {step:Int→Option (Int⊕(Unit⊕Unit))} {n:Nat} (ha:a.length<n) (hst:a.length=b.length→∀ (i:Nat) (h:i<a.length) (h':i<b.length),∃ r:Bool,step (i:Int)=some (if r=true then .inl ((i + 1:Nat):Int) else .inr (.inr ()))∧(r=true↔a[i]=b[i]))
    (he:step (a.length:Int)=some (.inr (.inl ()))) {f:Unit⊕Unit→Option Bool} {P:Prop} (h1:C2 (f (.inl ())) P) (h2:f (.inr ())=some false):C2 (if ((a.length:Int) != (b.length:Int))=true then some false else (iter step n 0).bind f) (a=b∧P):=by
  by_cases hl:a.length=b.length
  · rw [if_neg (by simp [hl])]
    obtain ⟨t,e,ht⟩:=z2 hl (hst hl) he a.length 0 n (by omega) ha rfl
    have e':iter step n 0=some t:=e
    rw [e',Option.bind_some]
    rcases t with u | u
    · obtain ⟨r,e2,hr⟩:=h1
      exact ⟨r,e2,hr.trans ⟨fun h=>⟨ht.1 rfl,h⟩,fun h=>h.2⟩⟩
    · exact ⟨false,h2,by
        simp only [Bool.false_eq_true,false_iff,not_and]
        intro h
        exact absurd (ht.2 h) (by simp)⟩
  · rw [if_pos (by simp; omega)]
    exact ⟨false,rfl,by
      simp only [Bool.false_eq_true,false_iff,not_and]
      intro h
      rw [h] at hl
      exact absurd rfl hl⟩
theorem EK:C2 (some true) True:=⟨true,rfl,by simp⟩
theorem C2.iff {m:Option Bool} {P Q:Prop} (h:C2 m P) (k:P↔Q):C2 m Q:=by
  obtain ⟨r,e,hr⟩:=h
  exact ⟨r,e,hr.trans k⟩
theorem nk {i:Nat} (h:i<100000):ad .i64 (i:Int) 1=((i + 1:Nat):Int):=by
  rw [wR (by omega) (by omega)]
  omega
theorem C3 {i:Nat} {α:Type} {x y:α}:(if decide ((i:Int)<(i:Int))=true then x else y)=y:=if_neg (by simp)
theorem z9 {α:Type} {l:List α} {i:Nat} (h:i<l.length):aH l (i:Int)=some l[i]:=by rw [i6,List.getElem?_eq_getElem h]
theorem KC (x y:Cell):Cell.beq x y=true↔x=y:=⟨Cell.beq_eq,fun h=>h▸Cell.beq_refl x⟩
theorem Ib (n:Nat) (a b:List Cell) (ha:a.length≤1000) (hn:2000≤n):C2 (gn n a b) (a=b):=by
  unfold gn
  refine (EJ (f:=fun t2=>match t2 with | .inl _=>some true | .inr _=>some false) (P:=True) (by omega) (fun hl i h h'=>?_) ?_ EK rfl).iff (by simp)
  · unfold eK
    rw [if_pos (by simp; omega),z9 h,z9 h',Option.bind_some,Option.bind_some,nk (by omega)]
    refine ⟨Cell.beq a[i] b[i],?_,KC _ _⟩
    cases hc:Cell.beq a[i] b[i] <;> simp
  · unfold eK
    exact C3
/-- One test, then others. -/
theorem C2.and {m:Option Bool} {f:Bool→Option Bool} {P Q:Prop} (h:C2 m P) (h1:C2 (f true) Q) (h2:f false=some false):C2 (m.bind f) (P∧Q):=by
  obtain ⟨r,e,hr⟩:=h
  rw [e,Option.bind_some]
  cases r with
  | true =>
    have:=hr.1 rfl
    exact h1.iff ⟨fun q=>⟨this,q⟩,fun q=>q.2⟩
  | false =>
    exact ⟨false,h2,by
      simp only [Bool.false_eq_true,false_iff,not_and]
      intro p
      exact absurd (hr.2 p) (by simp)⟩
def Bc (e:Event):Prop:=e.Deps.Addr.length≤1000∧e.Deps.Data.length≤1000∧e.Deps.Way.length≤1000
theorem FC {e:Event} (h:small e):Bc e:=⟨by have:=h.1; omega,by have:=h.2.1; omega,by have:=h.2.2; omega⟩
theorem Mx (l:List Int) (h:l.length≤1000):Nat.ble (l.length * 8) 140737488355328=true:=iS (by omega)
theorem Hd (n:Nat) (l:List Int) (h:l.length≤1000):gP n l=some l:=by
  unfold gP
  rw [iT (Mx l h)]
theorem Ic (n:Nat) (l:List Cell) (h:l.length≤1000):jD n l=some l:=by
  unfold jD
  rw [iT (iS (by omega))]
theorem He (n:Nat) (e:Event) (h:Bc e):h_ n e=some e:=by
  unfold h_ mz
  rw [Hd n _ h.1,Hd n _ h.2.1,Hd n _ h.2.2]
  rfl
/-- A list built up element by element. -/
theorem qW {α β:Type} {l:List α} {r:List β} {step:List β×Int→Option ((List β×Int)⊕List β)} (hl:l.length=r.length) (hst:∀ (i:Nat),i<l.length→∀ h':i<r.length,step (r.take i,(i:Int))=some (.inl (r.take i++[r[i]],((i + 1:Nat):Int)))) (he:step (r,(l.length:Int))=some (.inr r)):∀ (k i n:Nat),i + k=l.length→k<n→iter step n (r.take i,(i:Int))=some r
  | k,i,0,_,h=>by omega
  | 0,i,n + 1,hi,_=>by
    have e:i=l.length:=by omega
    subst e
    rw [aY,hl,List.take_length,← hl,he]
  | k + 1,i,n + 1,hi,hn=>by
    have h1:i<l.length:=by omega
    have h2:i<r.length:=by omega
    rw [aY,hst i h1 h2]
    have e:r.take i++[r[i]]=r.take (i + 1):=by rw [List.take_add_one,List.getElem?_eq_getElem h2]; rfl
    rw [e]
    exact qW hl hst he k (i + 1) n (by omega) (by omega)

end Go.Proofs.Ytcckeabholabcaa
