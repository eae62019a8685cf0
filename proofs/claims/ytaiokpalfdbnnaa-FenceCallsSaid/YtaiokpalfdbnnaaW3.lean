/- Strip; Open -/
import Derived.Test.YtaiokpalfdbnnaaW2
namespace Go.Proofs.Ytaiokpalfdbnnaa
open Go A

/-- Each fence without which it is fenced still goes, the first one first. -/
inductive SR:List ab→Nat→List ab→Prop
  | fin {l:List ab} {i:Nat}:l.length≤i→SR l i l
  | no {l r:List ab} {i:Nat} {s:ab}:l[i]?=some s→¬ (s.Op=7∧u9 (c5 (only i) l))→SR l (i + 1) r→SR l i r
  | yes {l r:List ab} {i:Nat} {s:ab}:l[i]?=some s→s.Op=7→u9 (c5 (only i) l)→SR (c5 (only i) l) 0 r→SR l i r
theorem xA {l:List ab} {i:Nat} (h:i<l.length):(c5 (only i) l).length + 1=l.length:=by
  rw [m1]
  have:=B4 i l.length
  rw [if_pos h] at this
  exact this
theorem Eh {g:Nat→Bool} {l:List ab}:∀ {k:Nat},k≤l.length→cf (fL g l k)≤cf (l.take k)
  | 0,_=>Nat.le_refl _
  | k + 1,h=>by
    have hs:l[k]?=some (l[k]'(by omega)):=List.getElem?_eq_getElem (by omega)
    have ih:=Eh (g:=g) (l:=l) (k:=k) (by omega)
    unfold cf at ih ⊢
    rw [ga hs,List.take_succ_eq_append_getElem (by omega),List.countP_append,List.countP_append]
    split
    · simp
      omega
    · omega
theorem H4 (g:Nat→Bool) (l:List ab):cf (c5 g l)≤cf l:=by
  have h:=Eh (g:=g) (l:=l) (Nat.le_refl _)
  rw [List.take_length] at h
  have e:cf (c5 g l)=cf (fL g l l.length):=by
    unfold cf c5
    rw [List.countP_map]
    congr 1
    funext s
    show (!nf (mv (j5 g) s))=!nf s
    rw [Kr]
  omega
theorem SR.ok {l r:List ab} {i:Nat} (h:SR l i r) (R:Int):aK (aj.mk R l)→u9 l→(∀ (k:Nat) (s:ab),k<i→l[k]?=some s→s.Op=7→¬ u9 (c5 (only k) l))→aK (aj.mk R r)∧u9 r∧cf r≤cf l∧r.length≤l.length∧∀ (k:Nat) (s:ab),r[k]?=some s→s.Op=7→¬ u9 (c5 (only k) r):=by
  induction h with
  | @fin l i h=>exact fun h1 h2 h3=>⟨h1,h2,Nat.le_refl _,Nat.le_refl _,fun k s hs h7=>h3 k s (by have:=(List.getElem?_eq_some_iff.1 hs).1; omega) hs h7⟩
  | @no l r i s hs hn _ ih =>
    refine fun h1 h2 h3=>ih h1 h2 (fun k t hk ht h7=>?_)
    by_cases e:k=i
    · subst e
      rw [hs] at ht
      cases ht
      exact fun hf=>hn ⟨h7,hf⟩
    · exact h3 k t (by omega) ht h7
  | @yes l r i s hs h7 hf _ ih =>
    intro h1 h2 h3
    obtain ⟨g1,g2,g3,g4,g5⟩:=ih (nM h1 (Av hs h7)) hf (fun k t hk=>by omega)
    have:=H4 (only i) l
    have:=xA (List.getElem?_eq_some_iff.1 hs).1
    exact ⟨g1,g2,by omega,by omega,g5⟩
theorem H5 (n:Nat) (hn:1000000<n) (c:aj) (hr:aK c) (hb:c.Regs≤150) (hl:c.Steps.length≤400):T (ij n c) (fun y=>(u9 c.Steps→y.2=0∧y.1.Regs=c.Regs∧SR c.Steps 0 y.1.Steps)∧(¬ u9 c.Steps→y=(aj.mk 0 [],2))):=by
  have hlen:=hr.len
  unfold ij
  refine T.bind (P:=fun b=>b=true↔u9 c.Steps) (by
    unfold ed
    refine (pU n hn c hb hl).bind (fun y hy=>?_)
    have hy0:=hy.2 hr
    subst hy0
    exact T.ite (fun _=>(tY n hn c hlen.1 hlen.2).bind (fun b hb=>T.ret hb)) (fun h=>by simp at h)) (fun b hf=>?_)
  refine T.ite (fun h=>T.ret ⟨fun hf2=>?_,fun _=>rfl⟩) (fun h=>?_)
  · rw [hf.2 hf2] at h
    cases h
  have hfen:u9 c.Steps:=hf.1 (by simpa using h)
  refine T.bind (P:=fun _=>True) (by
    unfold b5
    refine T.grd ?_ (T.grd (Nat.ble_eq_true_of_le (by omega)) (T.ret trivial))
    cases h:c.Steps with
    | nil=>rw [h] at hlen; simp at hlen
    | cons x l=>rfl) (fun _ _=>?_)
  refine T.bind (P:=fun t=>t.1=c.Regs∧SR c.Steps 0 t.2) (T.fall (fun m s=>∃ (l:List ab) (i:Nat),s=(c.Regs,l,(i:Int))∧aK (aj.mk c.Regs l)∧l.length≤400∧i≤l.length∧m=l.length * 401 + (l.length - i)∧∀ r,SR l i r→SR c.Steps 0 r) _ (fun m s hs=>?_) n (c.Steps.length * 401 + (c.Steps.length - 0)) _ ⟨c.Steps,0,rfl,hr,hl,by omega,rfl,fun r h=>h⟩ (by omega)) (fun t ht=>T.ret ⟨fun _=>⟨rfl,ht⟩,fun h=>(h hfen).elim⟩)
  obtain ⟨l,i,rfl,g1,g2,g3,rfl,g4⟩:=hs
  have hlen1:1≤l.length:=g1.len.1
  unfold iH fc
  refine T.ite (fun h=>?_) (fun h=>?_)
  · have h:=of_decide_eq_true h
    have h:(i:Int)<(l.length:Int):=h
    have hi':i<l.length:=by omega
    have hx:ae .i64 (i:Int) 1=((i + 1:Nat):Int):=bM i (by omega)
    have hsi:l[i]?=some l[i]:=List.getElem?_eq_getElem hi'
    have nxt:¬ (l[i].Op=7∧u9 (c5 (only i) l))→T (some (.inl (c.Regs,l,ae .i64 (i:Int) 1):(Int×List ab×Int)⊕(Int×List ab))) (Rd (fun s'=>∃ m',m'<l.length * 401 + (l.length - i)∧∃ (l:List ab) (i:Nat),s'=(c.Regs,l,(i:Int))∧aK (aj.mk c.Regs l)∧l.length≤400∧i≤l.length∧m'=l.length * 401 + (l.length - i)∧∀ r,SR l i r→SR c.Steps 0 r) (fun t=>t.1=c.Regs∧SR c.Steps 0 t.2)):=fun hno =>
      T.next ⟨_,by omega,l,i + 1,by rw [hx],g1,g2,hi',rfl,fun r h=>g4 r (.no hsi hno h)⟩
    refine T.get i rfl hi' ?_
    rw [Option.bind_some]
    refine T.ite (fun h3=>nxt (fun hh=>?_)) (fun h3=>?_)
    · rw [hh.1] at h3
      cases h3
    · have h7:l[i].Op=7:=by
        have h3:(!(l[i].Op==7))=false:=h3
        simpa using h3
      have hgr:=nM g1 (Av hsi h7)
      have hgl:=xA hi'
      refine (Fu n hn (aj.mk c.Regs l) g1 i _ hsi h7).bind (fun y hy=>?_)
      obtain ⟨hy1,hy2⟩:=hy
      rw [hy1,hy2]
      refine (tY n hn _ hgr.len.1 hgr.len.2).bind (fun b hb=>T.ite (fun hbt=>T.next ⟨_,?_,c5 (only i) l,0,rfl,hgr,?_,by omega,rfl,fun r h=>g4 r (.yes hsi h7 (hb.1 hbt) h)⟩) (fun hbf=>nxt (fun hh=>?_)))
      · omega
      · omega
      · rw [hb.2 hh.2] at hbf
        cases hbf
  · have h:=of_decide_eq_false h
    have h:¬ (i:Int)<(l.length:Int):=h
    exact T.fin ⟨rfl,g4 l (.fin (by omega))⟩
theorem Jv (n:Nat) (hn:1000000<n) (c:aj) (hr:aK c) (hb:c.Regs≤150) (hl:c.Steps.length≤400):T (hU n c) (fun y=>y.length=c.Steps.length∧∀ (k:Nat) (b:Bool),y[k]?=some b→(b=true↔D c.Steps k true)):=by
  have hlen:=hr.len
  unfold hU
  refine (pU n hn c hb hl).bind (fun y hy=>?_)
  have hy0:=hy.2 hr
  subst hy0
  refine T.ite (fun h=>by simp at h) (fun _=>T.grd (by simp [Nat.blt]; omega) ?_)
  refine (xz n hn c hlen.1 hlen.2).bind (fun y hy=>?_)
  obtain ⟨vs,rfl,hv,hd⟩:=hy
  rw [Int.toNat_natCast]
  refine T.bind (T.loop c.Steps.length (fun i s=>∃ l:List Bool,s=(l,(i:Int))∧l.length=c.Steps.length∧∀ (k:Nat) (b:Bool),k<i→l[k]?=some b→(b=true↔D c.Steps k true)) (fun y=>y.length=c.Steps.length∧∀ (k:Nat) (b:Bool),y[k]?=some b→(b=true↔D c.Steps k true)) (fun i s hi hs=>?_) ⟨_,rfl,List.length_replicate,fun k b h=>by omega⟩ (by omega)) (fun t ht=>T.ret ht)
  obtain ⟨l,rfl,h1,h2⟩:=hs
  unfold jE
  refine T.ite (fun h=>?_) (fun h=>?_)
  · have h:=of_decide_eq_true h
    have h:(i:Int)<((Ns vs).length:Int):=h
    rw [jA] at h
    have hi':i<c.Steps.length:=by omega
    have hiv:i<vs.length:=by omega
    have hil:i<l.length:=by omega
    have hx:ae .i64 (i:Int) 1=((i + 1:Nat):Int):=bM i (by omega)
    have hvi:vs[i]?=some vs[i]:=List.getElem?_eq_getElem hiv
    refine T.eqb (rn hiv) (T.get i rfl hil (T.next ⟨hi',l.set i ((vs[i]:Int)==2),?_,by rw [List.length_set]; exact h1,fun k b hk hb=>?_⟩))
    · show (l.set ((i:Int)).toNat _,ae .i64 (i:Int) 1)=_
      rw [hx,Int.toNat_natCast]
    · rw [aW hil] at hb
      by_cases e:i=k
      · subst e
        rw [if_pos rfl] at hb
        cases hb
        rw [← hd i,hvi,Option.some.injEq,beq_iff_eq]
        omega
      · rw [if_neg e] at hb
        exact h2 k b (by omega) hb
  · have h:=of_decide_eq_false h
    have h:¬ (i:Int)<((Ns vs).length:Int):=h
    rw [jA] at h
    exact T.fin ⟨h1,fun k b hb=>h2 k b (by have hk:k<l.length:=(List.getElem?_eq_some_iff.1 hb).1; omega) hb⟩

end Go.Proofs.Ytaiokpalfdbnnaa
