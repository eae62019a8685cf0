/- A renamed code is right if the code is -/
import Derived.Test.YteafbimadlcljaaDoorR2
namespace Go.Proofs.YteafbimadlcljaaDoor
open Go A

theorem D1 {x y:ab}:ab.beq x y=true↔x=y:=⟨ab.beq_eq,fun h=>by rw [h]; exact ab.beq_refl y⟩
theorem D2 {R:Nat} {f g:Int→Int} (hf:Ren R f g) (n:Nat) (s:ab) (st:Int) (h:ef n s (R:Int) st=some true):ef n (b8 f s) (R:Int) st=some true:=by
  have step:∀ (x:Int) (X Y:Option Bool),(if x<0 then some false else if (R:Int)≤x then some false else X)=some true→(X=some true→Y=some true)→(if f x<0 then some false else if (R:Int)≤f x then some false else Y)=some true:=fun x X Y h1 h2=>by
    split at h1
    · cases h1
    · split at h1
      · cases h1
      · obtain ⟨h3,h4⟩:=hf.fr x (by omega) (by omega)
        rw [if_neg (by omega),if_neg (by omega)]
        exact h2 h1
  obtain ⟨op,a,b,c,d,imm,bin,to,sh⟩:=s
  unfold ef at h ⊢
  rw [oZ,Option.bind_some] at h ⊢
  unfold b8
  dsimp only at h ⊢
  rcases aj op with e | e | e | e | e | e | e | e | e | e | e
  case inr.inr.inr.inr.inr.inr.inr.inr.inr.inr =>
    have e0:b7 op=0:=by unfold b7; repeat (rw [if_neg (by omega)])
    exfalso
    rw [e0] at h
    unfold bV at h
    rcases e with e | e
    · rw [if_pos (by rfl),if_neg (by simp; omega)] at h
      simp at h
    · rw [if_pos (by rfl),if_pos (by simp; omega)] at h
      have:decide (op≤10)=false:=by simp; omega
      rw [this] at h
      simp at h
  all_goals
    subst e
    simp [b7,nC,hB,hC,hD,bV,D1] at h ⊢
  all_goals repeat (first | exact h | refine step _ _ _ h (fun h=>?_))

/-! ### What Check says, exactly -/
theorem Gc (n:Nat) (c:bh) (hl:c.Steps.length≤120) (hn:200≤n) (st:Int):T (aI n c.Steps c.Regs c.Steps st) (fun b=>b=false↔∀ k (h:k<c.Steps.length),ef n c.Steps[k] c.Regs st=some true):=by
  unfold aI bI
  refine T.bind (P:=fun y:Int=>y<0↔∀ k (h:k<c.Steps.length),ef n c.Steps[k] c.Regs st=some true) ?_ (fun y hy=>T.ret (by rw [← hy]; simp))
  refine T.bind (P:=Rd (fun _:Unit=>∀ k (h:k<c.Steps.length),ef n c.Steps[k] c.Regs st=some true) (fun w:Int=>0≤w∧¬ ∀ k (h:k<c.Steps.length),ef n c.Steps[k] c.Regs st=some true)) ?_ (fun t ht=>by
    cases t with
    | inl w=>exact T.ret ⟨fun _=>ht,fun _=>by omega⟩
    | inr w=>exact T.ret ⟨fun h=>by have:0≤w:=ht.1; omega,fun h=>(ht.2 h).elim⟩)
  refine T.loop c.Steps.length (fun i s=>s=(i:Int)∧∀ k (h:k<c.Steps.length),k<i→ef n c.Steps[k] c.Regs st=some true) _ (fun i s hi hs=>?_) ⟨rfl,fun k h h2=>by omega⟩ (by omega)
  obtain ⟨rfl,hs⟩:=hs
  unfold bd
  refine T.ite (fun h=>?_) (fun h=>T.fin ?_)
  · rw [decide_eq_true_eq] at h
    have hi':i<c.Steps.length:=by omega
    refine T.get i rfl hi' ?_
    unfold jG
    obtain ⟨y,hy,_⟩:=F7 n c.Steps[i] c.Regs st
    rw [hy,Option.bind_some,Option.bind_some]
    refine T.ite (fun h2=>T.fin ⟨by omega,fun hx=>?_⟩) (fun h2=>T.next ⟨hi',ga i (by omega),fun k hk hki=>?_⟩)
    · rw [hx i hi'] at hy
      cases hy
      cases h2
    · by_cases e:k=i
      · subst e
        rw [hy]
        simpa using h2
      · exact hs k hk (by omega)
  · rw [decide_eq_false_iff_not] at h
    exact fun k hk=>hs k hk (by omega)
structure Facts (n:Nat) (c:bh):Prop where
  regs:0≤c.Regs
  len:1≤c.Steps.length
  last:∃ s,c.Steps[c.Steps.length - 1]?=some s∧(s.Op=8∨s.Op=10)
  may:∀ k (h:k<c.Steps.length),ef n c.Steps[k] c.Regs (c.Steps.length:Int)=some true
  wr:0<c.Regs→cM n c=some true
theorem Facts.ok {n:Nat} {c:bh} {R:Nat} (h:∀ k (h:k<c.Steps.length),ef n c.Steps[k] c.Regs (c.Steps.length:Int)=some true) (hR:c.Regs=(R:Int)):zT c R:=fun k hk=>by
  obtain ⟨y,hy,h2⟩:=F7 n c.Steps[k] c.Regs (c.Steps.length:Int)
  rw [h k hk] at hy
  cases hy
  rw [← hR]
  exact h2 rfl
theorem v3 (n:Nat) (c:bh) (hl:c.Steps.length≤120) (hR:c.Regs≤60) (hn:1000000<n):T (fW n c) (fun y=>y=0↔Facts n c):=by
  unfold fW
  have no:¬ Facts n c→T (some (2:Int)) (fun y=>y=0↔Facts n c):=fun hx=>T.ret ⟨fun h=>(by cases h),fun h=>(hx h).elim⟩
  refine T.ite (fun h1=>no (fun hx=>?_)) (fun h1=>T.ite (fun h2=>?_) (fun h2=>T.ite (fun h3=>no (fun hx=>?_)) (fun h3=>T.ite (fun h4=>?_) (fun h4=>?_))))
  · rw [decide_eq_true_eq] at h1
    have:=hx.regs
    omega
  · rw [decide_eq_true_eq] at h2
    omega
  · rw [decide_eq_true_eq] at h3
    have:=hx.len
    omega
  · rw [decide_eq_true_eq] at h4
    omega
  rw [decide_eq_false_iff_not] at h1 h3
  obtain ⟨R,hRe⟩:∃ R:Nat,c.Regs=(R:Int):=⟨c.Regs.toNat,by omega⟩
  have h3':1≤c.Steps.length:=by omega
  have hgl:c.Steps[c.Steps.length - 1]?=some c.Steps[c.Steps.length - 1]:=List.getElem?_eq_getElem (by omega)
  refine T.get (c.Steps.length - 1) (Es _ h3' (by omega)) (by omega) ?_
  have body:(c.Steps[c.Steps.length - 1].Op=8∨c.Steps[c.Steps.length - 1].Op=10)→T ((aI n c.Steps c.Regs c.Steps (c.Steps.length:Int)).bind fun y8=>if y8=true then some (2:Int) else if (decide (c.Regs>0))=true then (cM n c).bind fun y11=>if (!y11)=true then some 2 else some 0 else some 0) (fun y=>y=0↔Facts n c):=fun hop=>by
    refine (Gc n c hl (by omega) _).bind (fun b hb=>T.ite (fun h=>no (fun hx=>?_)) (fun h=>?_))
    · rw [hb.2 hx.may] at h
      cases h
    have hm:=hb.1 h
    have hok:=Facts.ok hm hRe
    refine T.ite (fun h5=>?_) (fun h5=>T.ret ⟨fun _=>⟨by omega,h3',⟨_,hgl,hop⟩,hm,fun h6=>?_⟩,fun _=>rfl⟩)
    · rw [decide_eq_true_eq] at h5
      obtain ⟨y,hy,_⟩:=CZ (R:=R) (by omega) (by omega) n c hRe h3' hl hok hn
      refine T.eqb hy (T.ite (fun h6=>no (fun hx=>?_)) (fun h6=>T.ret ⟨fun _=>⟨by omega,h3',⟨_,hgl,hop⟩,hm,fun _=>?_⟩,fun _=>rfl⟩))
      · rw [hx.wr (by omega)] at hy
        cases hy
        cases h6
      · rw [hy]
        simpa using h6
    · rw [decide_eq_false_iff_not] at h5
      exact (h5 h6).elim
  refine T.ite (fun h5=>T.ite (fun h6=>no (fun hx=>?_)) (fun h6=>body (.inr (by simpa using h6)))) (fun h5=>body (.inl (by simpa using h5)))
  obtain ⟨s,h7,h8⟩:=hx.last
  rw [hgl] at h7
  cases h7
  simp at h5 h6
  omega
theorem BK (n:Nat) (c:bh) (hl:c.Steps.length≤120) {R:Nat} (hRe:c.Regs=(R:Int)) (hR:R≤60) (hn:1000000<n) {f g:Int→Int} (hf:Ren R f g) (h:Facts n c):fW n (iA f c)=some 0:=by
  have hlen:(iA f c).Steps.length=c.Steps.length:=by
    show (c.Steps.map (b8 f)).length=_
    rw [List.length_map]
  have hok:=Facts.ok h.may hRe
  obtain ⟨y,hy,hi⟩:=v3 n (iA f c) (by omega) (by show c.Regs≤60; omega) hn
  rw [hy]
  congr 1
  refine hi.2 ⟨h.regs,by rw [hlen]; exact h.len,?_,fun k hk=>?_,fun h0=>?_⟩
  · obtain ⟨s,h1,h2⟩:=h.last
    refine ⟨b8 f s,?_,h2⟩
    rw [hlen]
    show (c.Steps.map (b8 f))[_]?=_
    rw [List.getElem?_map,h1]
    rfl
  · rw [hlen]
    have hk':k<(c.Steps.map (b8 f)).length:=hk
    show ef n ((c.Steps.map (b8 f))[k]'hk') c.Regs _=_
    rw [List.getElem_map,hRe]
    exact D2 hf n _ _ (by rw [← hRe]; exact h.may k (by rwa [hlen] at hk))
  · have h0:0<c.Regs:=h0
    exact yK (by omega) hR n c hRe h.len hl hok hn hf (h.wr h0)

end Go.Proofs.YteafbimadlcljaaDoor
