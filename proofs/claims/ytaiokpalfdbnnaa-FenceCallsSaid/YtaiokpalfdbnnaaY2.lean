/- The reference: what is open, as the fixpoint -/
import Derived.Test.YtaiokpalfdbnnaaY1
namespace Go.Proofs.Ytaiokpalfdbnnaa
open Go A

/-- 0: no way comes to it; 1: not open; 2: open. The reference counts from -1. -/
def Ms (vs:List Nat):List Int:=vs.map (fun (v:Nat)=>((v:Nat):Int) - 1)
theorem t8 (vs:List Nat):(Ms vs).length=vs.length:=List.length_map ..
theorem xB {vs:List Nat} {k:Nat} (h:k<vs.length):az (Ms vs) (k:Int)=some ((vs[k]:Int) - 1):=by
  rw [gJ]
  unfold Ms
  rw [List.getElem?_map,List.getElem?_eq_getElem h]
  rfl
theorem Ha (vs:List Nat) (k v:Nat):(Ms vs).set k ((v:Int) - 1)=Ms (vs.set k v):=by
  unfold Ms
  rw [List.map_set]
def mM (vs:List Nat):Nat:=(vs.map (fun v=>2 - v)).sum
theorem CS.put {l:List ab} {vs:List Nat} (h:CS l vs []) {i v o:Nat} (hi:vs[i]?=some v) (hv:v<o) (ho:o≤2) (s1:∃ o,D l i o) (s2:o=2→D l i true):CS l (vs.set i o) []:=by
  have hil:=(List.getElem?_eq_some_iff.1 hi).1
  refine ⟨by rw [List.length_set]; exact h.len,fun j x hj=>?_,fun j x hj hx=>?_,fun j hj=>?_,?_,fun q hq=>(by cases hq)⟩
  · rw [aW hil] at hj
    split at hj
    · cases hj
      exact ho
    · exact h.le j x hj
  · rw [aW hil] at hj
    split at hj
    · rename_i e
      subst e
      exact s1
    · exact h.so1 j x hj hx
  · rw [aW hil] at hj
    split at hj
    · rename_i e
      subst e
      cases hj
      exact s2 rfl
    · exact h.so2 j hj
  · obtain ⟨x,h1,h2⟩:=h.c0
    rw [aW hil]
    split
    · exact ⟨o,rfl,by omega⟩
    · exact ⟨x,h1,h2⟩
theorem CS.all {l:List ab} {vs:List Nat} (g1:CS l vs []) (g2:∀ q,Fz l vs q) (k:Nat):vs[k]?=some 2↔D l k true:=by
  have comp:∀ k o,D l k o→∃ v,vs[k]?=some v∧1≤v∧(o=true→v=2):=fun k o hd=>by
    induction hd with
    | zero =>
      obtain ⟨v,h1,h2⟩:=g1.c0
      exact ⟨v,h1,h2,fun h=>by cases h⟩
    | @step k i o s hd hs hsu ih =>
      obtain ⟨v,h1,h2,h3⟩:=ih
      obtain ⟨v',h4,h5⟩:=g2 k v s hs h1 h2 i hsu
      have h6:=Kt (s:=s) h2
      have h7:=g1.le i v' h4
      refine ⟨v',h4,by omega,fun ho=>?_⟩
      unfold out at ho
      rw [Bool.and_eq_true,Bool.or_eq_true] at ho
      have h8:bh v s=2:=by
        unfold bh
        rcases ho.2 with h9 | h9
        · rw [if_pos ho.1,h3 h9]
          split <;> rfl
        · rw [if_pos h9]
      omega
  refine ⟨fun h=>g1.so2 k h,fun h=>?_⟩
  obtain ⟨v,h1,h2,h3⟩:=comp k true h
  rw [h1,h3 rfl]
def Ch (l:List ab) (vs0 vs:List Nat) (ch:Bool) (P:Prop):Prop:=CS l vs []∧((ch=false∧vs=vs0∧P)∨(ch=true∧mM vs<mM vs0))
theorem Ov (n:Nat) (hn:100≤n) (c:aj) (vs0:List Nat) (o:Nat) (ho:o≤2) (k0:Nat) (nx:List Int) (hnx:mE c.Steps k0 nx) (hd1:∀ j,Su c.Steps k0 j→∃ o,D c.Steps j o) (hd2:o=2→∀ j,Su c.Steps k0 j→D c.Steps j true) (P:Prop) (vs:List Nat) (ch:Bool) (h0:Ch c.Steps vs0 vs ch P) (x:Int) :
    T (iter (fun s=>cW n c nx s) n (Ms vs,ch,x,(o:Int) - 1,0)) (fun t=>∃ vs' ch',t=(Ms vs',ch',x)∧Ch c.Steps vs0 vs' ch' (P∧∀ j,Su c.Steps k0 j→∃ v',vs0[j]?=some v'∧o≤v')):=by
  have h2:=hnx.1
  refine T.loop nx.length (fun i s=>∃ vs' ch',s=(Ms vs',ch',x,(o:Int) - 1,(i:Int))∧Ch c.Steps vs0 vs' ch' (P∧∀ j:Nat,(j:Int)∈nx.take i→∃ v',vs0[j]?=some v'∧o≤v')) _ (fun i s hi hs=>?_) ⟨vs,ch,rfl,h0.1,h0.2.imp (fun h=>⟨h.1,h.2.1,h.2.2,fun j hj=>by simp at hj⟩) id⟩ (by omega)
  clear h0
  obtain ⟨vs',ch',rfl,hcs,hch⟩:=hs
  unfold cW
  refine T.ite (fun h=>?_) (fun h=>?_)
  · have h:=of_decide_eq_true h
    have h:(i:Int)<(nx.length:Int):=h
    have hi':i<nx.length:=by omega
    refine T.get i rfl hi' ?_
    have hk:=hnx.2.1 nx[i] (List.getElem_mem hi')
    obtain ⟨k,hkk⟩:∃ k:Nat,nx[i]=(k:Int):=⟨nx[i].toNat,by omega⟩
    have htk:nx.take (i + 1)=nx.take i++[(k:Int)]:=by rw [List.take_succ_eq_append_getElem hi',hkk]
    have hsu:Su c.Steps k0 k:=(hnx.2.2 k).1 (by rw [← hkk]; exact List.getElem_mem hi')
    rw [hkk] at hk ⊢
    have hkN:k<vs'.length:=by have:=hcs.len; omega
    have hkv:vs'[k]?=some vs'[k]:=List.getElem?_eq_getElem hkN
    have hx:ae .i64 (i:Int) 1=((i + 1:Nat):Int):=bM i (by omega)
    refine T.eqb (xB hkN) (T.ite (fun h3=>?_) (fun h3=>?_))
    · have h3:=of_decide_eq_true h3
      have h3:(vs'[k]:Int) - 1<(o:Int) - 1:=h3
      have h3':vs'[k]<o:=by omega
      refine T.next ⟨hi',vs'.set k o,true,?_,hcs.put hkv h3' ho (hd1 k hsu) (fun h=>hd2 h k hsu),.inr ⟨rfl,?_⟩⟩
      · show ((Ms vs').set ((k:Int)).toNat ((o:Int) - 1),true,x,(o:Int) - 1,ae .i64 (i:Int) 1)=_
        rw [hx,Int.toNat_natCast,Ha]
      · have h4:=nK (fun v=>2 - v) vs' k hkN o
        have h5:mM vs'≤mM vs0:=by
          rcases hch with ⟨_,h,_⟩ | ⟨_,h⟩
          · rw [h]; exact Nat.le_refl _
          · omega
        unfold mM at h5 ⊢
        omega
    · have h3:=of_decide_eq_false h3
      have h3:¬ (vs'[k]:Int) - 1<(o:Int) - 1:=h3
      refine T.next ⟨hi',vs',ch',?_,hcs,hch.imp (fun h=>⟨h.1,h.2.1,h.2.2.1,fun j hj=>?_⟩) id⟩
      · show (Ms vs',ch',x,(o:Int) - 1,ae .i64 (i:Int) 1)=_
        rw [hx]
      · rw [htk] at hj
        rcases List.mem_append.1 hj with hj | hj
        · exact h.2.2.2 j hj
        · have:j=k:=by have:=List.mem_singleton.1 hj; omega
          subst this
          rw [← h.2.1]
          exact ⟨_,hkv,by omega⟩
  · have h:=of_decide_eq_false h
    have h:¬ (i:Int)<(nx.length:Int):=h
    have e:i=nx.length:=by omega
    subst e
    rw [List.take_length] at hch
    exact T.fin ⟨vs',ch',rfl,hcs,hch.imp (fun h=>⟨h.1,h.2.1,h.2.2.1,fun j hj=>h.2.2.2 j ((hnx.2.2 j).2 hj)⟩) id⟩
theorem Ow (n:Nat) (hn:10000≤n) (c:aj) (hl:c.Steps.length≤4096) (vs0:List Nat) (h0:CS c.Steps vs0 []) :
    T (iter (fun s=>jO n c s) n (Ms vs0,false,0)) (fun t=>∃ vs ch,t=(Ms vs,ch)∧Ch c.Steps vs0 vs ch (∀ q,Fz c.Steps vs0 q)):=by
  refine T.loop c.Steps.length (fun i s=>∃ vs ch,s=(Ms vs,ch,(i:Int))∧Ch c.Steps vs0 vs ch (∀ q,q<i→Fz c.Steps vs0 q)) _ (fun i s hi hs=>?_) ⟨vs0,false,rfl,h0,.inl ⟨rfl,rfl,fun q h=>by omega⟩⟩ (by omega)
  obtain ⟨vs,ch,rfl,hc⟩:=hs
  unfold jO
  refine T.ite (fun h=>?_) (fun h=>?_)
  · have h:=of_decide_eq_true h
    have h:(i:Int)<(c.Steps.length:Int):=h
    have hi':i<c.Steps.length:=by omega
    have hiv:i<vs.length:=by have:=hc.1.len; omega
    have hv:vs[i]?=some vs[i]:=List.getElem?_eq_getElem hiv
    have hs:c.Steps[i]?=some c.Steps[i]:=List.getElem?_eq_getElem hi'
    have hx:ae .i64 (i:Int) 1=((i + 1:Nat):Int):=bM i (by omega)
    refine T.eqb (xB hiv) (T.ite (fun h3=>?_) (fun h3=>T.get i rfl hi' (T.eqb (xv n _) ?_)))
    · have h3:=of_decide_eq_true h3
      have h3:(vs[i]:Int) - 1<0:=h3
      refine T.next ⟨hi',vs,ch,by rw [← hx],hc.1,hc.2.imp (fun h=>⟨h.1,h.2.1,fun q hq=>?_⟩) id⟩
      by_cases e:q=i
      · subst e
        intro v s _ hvq hv1
        rw [← h.2.1,hv] at hvq
        cases hvq
        omega
      · exact h.2.2 q (by omega)
    have h3:=of_decide_eq_false h3
    have h3:¬ (vs[i]:Int) - 1<0:=h3
    have hv1:1≤vs[i]:=by omega
    have hv2:=hc.1.le i _ hv
    obtain ⟨o,ho⟩:=hc.1.so1 i _ hv hv1
    have go:∀ x:Int,x=((bh vs[i] c.Steps[i]:Nat):Int) - 1→T ((fP n c (i:Int)).bind fun yb8=>(iter (fun s=>cW n c yb8 s) n (Ms vs,ch,(i:Int),x,0)).bind fun tb9=>some (.inl (tb9.1,tb9.2.1,ae .i64 tb9.2.2 1):(List Int×Bool×Int)⊕(List Int×Bool))) (Rd (fun s'=>i<c.Steps.length∧∃ vs ch,s'=(Ms vs,ch,((i + 1:Nat):Int))∧Ch c.Steps vs0 vs ch (∀ q,q<i + 1→Fz c.Steps vs0 q)) (fun t=>∃ vs ch,t=(Ms vs,ch)∧Ch c.Steps vs0 vs ch (∀ q,Fz c.Steps vs0 q))):=fun x hxo=>by
      subst hxo
      refine (D5 n (by omega) c i hi' (by omega)).bind (fun nx hnx=>(Ov n (by omega) c vs0 _ (IF hv2) i nx hnx (fun j hj=>⟨_,.step ho hs hj⟩) (fun h2 j hj=>?_) ((∀ q,q<i→Fz c.Steps vs0 q)∧vs=vs0) vs ch ⟨hc.1,hc.2.imp (fun h=>⟨h.1,h.2.1,h.2.2,h.2.1⟩) id⟩ (i:Int)).bind (fun t ht=>?_))
      · rcases Ku h2 with h3 | ⟨h3,h4⟩
        · have:=D.step ho hs hj
          unfold out at this
          rw [h3,G4 h3,Bool.or_true] at this
          exact this
        · have:=D.step (hc.1.so2 i (by rw [hv,h4])) hs hj
          unfold out at this
          rw [h3,Bool.true_or] at this
          exact this
      · obtain ⟨vs',ch',rfl,h4,h5⟩:=ht
        refine T.next ⟨hi',vs',ch',by rw [hx],h4,?_⟩
        rcases h5 with ⟨h6,h7,⟨h8,h12⟩,h9⟩ | h6
        · refine .inl ⟨h6,h7,fun q hq=>?_⟩
          by_cases e:q=i
          · subst e
            intro v s hs2 hvq _ j hj
            rw [hs] at hs2
            cases hs2
            obtain ⟨w,h10,h11⟩:=h9 j hj
            refine ⟨w,h10,?_⟩
            have:v=vs[q]:=by
              rw [← h12,hv] at hvq
              exact (Option.some.inj hvq).symm
            rw [this]
            exact h11
          · exact h8 q (by omega)
        · exact .inr h6
    refine T.ite (fun h4=>T.ite (fun h7=>?_) (fun h7=>?_)) (fun h4=>T.ite (fun h7=>?_) (fun h7=>?_))
    · rw [G2] at h7
      rw [G4 h4] at h7
      cases h7
    · exact go 1 (by unfold bh; rw [if_pos h4]; rfl)
    · rw [G2] at h7
      have h7:¬ nf c.Steps[i]=true:=by simpa using h7
      exact go 0 (by unfold bh; rw [if_neg (by rw [h4]; decide),if_neg h7]; rfl)
    · rw [G2] at h7
      have h7:nf c.Steps[i]=true:=by simpa using h7
      exact go _ (by unfold bh; rw [if_neg (by rw [h4]; decide),if_pos h7])
  · have h:=of_decide_eq_false h
    have h:¬ (i:Int)<(c.Steps.length:Int):=h
    exact T.fin ⟨vs,ch,rfl,hc.1,hc.2.imp (fun h2=>⟨h2.1,h2.2.1,fun q v s hs=>h2.2.2 q (by have:=(List.getElem?_eq_some_iff.1 hs).1; omega) v s hs⟩) id⟩

end Go.Proofs.Ytaiokpalfdbnnaa
