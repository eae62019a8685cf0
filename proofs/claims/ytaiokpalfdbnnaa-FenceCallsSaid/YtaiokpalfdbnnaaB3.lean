/- Ways on which a register is not written; the reference's sets -/
import Derived.Test.YtaiokpalfdbnnaaB2
namespace Go.Proofs.Ytaiokpalfdbnnaa
open Go A

def B_ (s:ab) (r:Nat):Bool:=B9 s.Op&&s.A_==(r:Int)
/-- A way on which r is not written comes to a step. -/
inductive U (l:List ab) (r:Nat):Nat→Prop
  | zero:U l r 0
  | step {k i:Nat} {s:ab}:U l r k→l[k]?=some s→B_ s r=false→Su l k i→U l r i
def zo (l:List ab) (R:Nat):Prop:=∀ k s,l[k]?=some s→∀ r:Nat,r<R→(r:Int)∈i9 s→¬ U l r k
structure aK (c:aj):Prop where
  regs:0≤c.Regs∧c.Regs≤1024
  len:1≤c.Steps.length∧c.Steps.length≤4096
  ok:∀ (k:Nat) (s:ab),c.Steps[k]?=some s→Ok s c.Regs c.Steps.length
  last:∃ s,c.Steps[c.Steps.length - 1]?=some s∧(s.Op=8∨s.Op=10)
  nb:zo c.Steps c.Regs.toNat
theorem Ok.rd {s:ab} {R N:Int} (h:Ok s R N):∀ r∈i9 s,0≤r∧r<R:=fun r hr=>by
  have hb:=h.b
  have hc:=h.c
  have hd:=h.d
  unfold rg at hb hc hd
  unfold i9 at hr
  split at hr
  · rename_i e
    rw [if_pos (by unfold hB; rcases e with e | e | e | e <;> rw [e] <;> rfl)] at hb
    rw [List.mem_singleton] at hr
    rw [hr]
    exact hb
  split at hr
  · rename_i e
    rw [if_pos (by unfold hB; rcases e with e | e <;> rw [e] <;> rfl)] at hb
    rw [if_pos (by unfold hC; rcases e with e | e <;> rw [e] <;> rfl)] at hc
    rw [List.mem_cons,List.mem_singleton] at hr
    rcases hr with rfl | rfl
    · exact hb
    · exact hc
  split at hr
  · rename_i e
    rw [if_pos (by unfold hB; rw [e]; rfl)] at hb
    rw [if_pos (by unfold hC; rw [e]; rfl)] at hc
    rw [if_pos (by unfold hD; rw [e]; rfl)] at hd
    rw [List.mem_cons,List.mem_cons,List.mem_singleton] at hr
    rcases hr with rfl | rfl | rfl
    · exact hb
    · exact hc
    · exact hd
  · cases hr
theorem Ok.wr {s:ab} {R N:Int} (h:Ok s R N) (hw:(Hk s).2=true):∃ r:Nat,(Hk s).1=(r:Int)∧(r:Int)<R∧∀ q:Nat,B_ s q=decide (q=r):=by
  have ha:=h.a
  unfold Hk at hw ⊢
  split at hw
  · rename_i e
    unfold rg at ha
    rw [if_pos e] at ha
    rw [if_pos e]
    refine ⟨s.A_.toNat,by show s.A_=_; omega,by omega,fun q=>?_⟩
    unfold B_
    rw [e,Bool.true_and]
    by_cases h2:s.A_=(q:Int)
    · rw [h2]; simp
    · rw [show (s.A_==(q:Int))=false from by simpa using h2,decide_eq_false (by omega)]
  · cases hw
theorem GN {s:ab} (hw:(Hk s).2=false) (q:Nat):B_ s q=false:=by
  unfold Hk at hw
  split at hw
  · cases hw
  · rename_i e
    unfold B_
    rw [show B9 s.Op=false from by simpa using e,Bool.false_and]
theorem nK {α:Type} (f:α→Nat):∀ (l:List α) (k:Nat) (h:k<l.length) (x:α),((l.set k x).map f).sum + f l[k]=(l.map f).sum + f x
  | a::l,0,_,x=>by simp; omega
  | a::l,k + 1,h,x=>by
    have:=nK f l k (by simpa using h) x
    simp only [List.set_cons_succ,List.map_cons,List.sum_cons,List.getElem_cons_succ]
    omega
theorem rm {α:Type} (f:α→Nat) (b:Nat):∀ l:List α,(∀ x∈l,f x≤b)→(l.map f).sum≤b * l.length
  | [],_=>by simp
  | a::l,h=>by
    have:=rm f b l (fun x hx=>h x (List.mem_cons_of_mem _ hx))
    have:=h a (List.mem_cons_self ..)
    simp only [List.map_cons,List.sum_cons,List.length_cons]
    rw [Nat.mul_add]
    omega
theorem T.matchO {α β:Type} {x:Option α} {a:Option β} {f:α→Option β} {Q:β→Prop} (h1:x=none→T a Q) (h2:∀ z,x=some z→T (f z) Q):T (matchO x a f) Q:=by
  cases x with
  | none=>exact h1 rfl
  | some z=>exact h2 z rfl
theorem aW {α:Type} {cs:List α} {i q:Nat} {x:α} (hi:i<cs.length):(cs.set i x)[q]?=if i=q then some x else cs[q]?:=by
  split
  · rename_i e
    subst e
    exact List.getElem?_set_self hi
  · rename_i e
    exact List.getElem?_set_ne e
theorem f0 {α:Type} {cs:List α} {k:Nat} {x:α} (h:cs[k]?=some x):cs.set k x=cs:=by
  obtain ⟨h1,h2⟩:=List.getElem?_eq_some_iff.1 h
  rw [← h2,List.set_getElem_self]

/-! ### The reference's sets: lists of bits -/
abbrev BL:=List Bool
def bt (b:BL) (r:Nat):Bool:=(b[r]?).getD false
def cnt (b:BL):Nat:=(b.map Bool.toNat).sum
theorem GO (b:BL):cnt b≤b.length:=by
  have:=rm Bool.toNat 1 b (fun x _=>by cases x <;> decide)
  unfold cnt
  omega
theorem BV {b:BL} {r:Nat} (h:r<b.length):bt b r=b[r]:=by
  unfold bt
  rw [List.getElem?_eq_getElem h]
  rfl
theorem GP {b:BL} {r q:Nat} (h:r<b.length) (x:Bool):bt (b.set r x) q=if r=q then x else bt b q:=by
  unfold bt
  rw [aW h]
  split <;> rfl
theorem w4 {R:Nat} (n:Nat) (hn:R<n) (hR:R≤1024) (c:aj) (hc:c.Regs=(R:Int)) (cs:List (Option BL)) (out b:BL) (k j:Nat) (ch:Bool) (i:Int) (nx:List Int) (hk:nx[k]?=some (j:Int)) (hj:j<cs.length) (hb:b.length=R) (ho:out.length=R) (hcs:cs[j]?=some (some b)) :
    T (iter (fun s=>fQ n c s) n (cs,out,(k:Int),0,ch,i,nx)) (fun t=>∃ b' ch',t=(cs.set j (some b'),out,(k:Int),ch',i,nx)∧b'.length=R∧(∀ r,bt b' r=(bt b r&&bt out r))∧((b'=b∧ch'=ch)∨(ch'=true∧cnt b'<cnt b))):=by
  refine T.loop R (fun m s=>∃ b' ch',s=(cs.set j (some b'),out,(k:Int),(m:Int),ch',i,nx)∧b'.length=R∧(∀ r,bt b' r=(bt b r&&(bt out r||decide (m≤r))))∧((b'=b∧ch'=ch)∨(ch'=true∧cnt b'<cnt b))) _ (fun m s hm hs=>?_) ⟨b,ch,by rw [f0 hcs]; rfl,hb,fun r=>by simp,.inl ⟨rfl,rfl⟩⟩ hn
  obtain ⟨b',ch',rfl,h1,h2,h3⟩:=hs
  unfold fQ
  have kl:k<nx.length:=(List.getElem?_eq_some_iff.1 hk).1
  have kv:nx[k]=(j:Int):=(List.getElem?_eq_some_iff.1 hk).2
  have hx:ae .i64 (m:Int) 1=((m + 1:Nat):Int):=bM m (by omega)
  have hset:∀ y:Option BL,(cs.set j y).length=cs.length:=fun y=>List.length_set
  refine T.ite (fun h=>?_) (fun h=>?_)
  · rw [hc,decide_eq_true_eq] at h
    have h:(m:Int)<(R:Int):=h
    have hm':m<R:=by omega
    refine T.get k rfl kl ?_
    rw [kv]
    refine T.get j rfl (by rw [hset]; exact hj) ?_
    rw [List.getElem_set_self]
    refine T.matchO (fun e=>by cases e) (fun z e=>?_)
    cases e
    refine T.get m rfl (by omega) (T.ite (fun hb1=>T.get m rfl (by show m<out.length; omega) (T.ite (fun ho1=>T.next ⟨hm',b'.set m false,true,?_,?_,fun r=>?_,.inr ⟨rfl,?_⟩⟩) (fun ho1=>T.next ⟨hm',b',ch',?_,h1,fun r=>?_,h3⟩))) (fun hb1=>T.next ⟨hm',b',ch',?_,h1,fun r=>?_,h3⟩))
    · rw [hx,Int.toNat_natCast,Int.toNat_natCast,List.set_set]
    · rw [List.length_set,h1]
    · rw [GP (by omega)]
      split
      · rename_i e
        subst e
        have:bt out m=false:=by rw [BV (by omega)]; simpa using ho1
        rw [this,decide_eq_false (by omega)]
        simp
      · rw [h2]
        have:decide (m≤r)=decide (m + 1≤r):=by
          by_cases e:m≤r
          · rw [decide_eq_true e,decide_eq_true (by omega)]
          · rw [decide_eq_false e,decide_eq_false (by omega)]
        rw [this]
    · have:=nK Bool.toNat b' m (by omega) false
      have hb1:b'[m].toNat=1:=by rw [hb1]; rfl
      rw [hb1] at this
      have h0:Bool.toNat false=0:=rfl
      unfold cnt
      unfold cnt at h3
      rcases h3 with ⟨rfl,_⟩ | ⟨_,h3⟩ <;> omega
    · rw [hx]
    · rw [h2]
      by_cases e:m=r
      · subst e
        have:bt out m=true:=by rw [BV (by omega)]; simpa using ho1
        rw [this]
        simp
      · have:decide (m≤r)=decide (m + 1≤r):=by
          by_cases e:m≤r
          · rw [decide_eq_true e,decide_eq_true (by omega)]
          · rw [decide_eq_false e,decide_eq_false (by omega)]
        rw [this]
    · rw [hx]
    · by_cases e:m=r
      · subst e
        have h4:bt b' m=false:=by rw [BV (by omega)]; exact hb1
        have h5:=h2 m
        rw [h4,decide_eq_true (Nat.le_refl m),Bool.or_true,Bool.and_true] at h5
        rw [h4,← h5]
        rfl
      · rw [h2]
        have:decide (m≤r)=decide (m + 1≤r):=by
          by_cases e:m≤r
          · rw [decide_eq_true e,decide_eq_true (by omega)]
          · rw [decide_eq_false e,decide_eq_false (by omega)]
        rw [this]
  · rw [hc,decide_eq_false_iff_not] at h
    have h:¬ (m:Int)<(R:Int):=h
    have e:m=R:=by omega
    subst e
    refine T.fin ⟨b',ch',rfl,h1,fun r=>?_,h3⟩
    rw [h2]
    by_cases e:m≤r
    · have h4:bt b r=false:=by unfold bt; rw [List.getElem?_eq_none (by omega)]; rfl
      rw [h4]
      rfl
    · rw [decide_eq_false e,Bool.or_false]

end Go.Proofs.Ytaiokpalfdbnnaa
