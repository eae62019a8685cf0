/- The law: what is live satisfies its equation, and leads to a use -/
import Derived.Test.YteafbimadlcljaaDoorA9
namespace Go.Proofs.YteafbimadlcljaaDoor
open Go A

theorem Dn {R:Nat} (hR:R≤60) (n:Nat) (hn:5000≤n) (c:bG) (bs:List W) (s0:ab) (nx:List Int) (hnx:yw bs.length nx) (i:Int) (r:Nat) (hr:r<R) (w0:Bool) :
    T (iter (fun s=>dZ n c (bs.map (jg R)) (nR s0) nx s) n (0,i,(r:Int),w0)) (fun t=>∃ w,t=(i,(r:Int),w)∧(w=true↔w0=true∨(∃ j:Nat,(j:Int)∈nx∧dV bs j r)∧¬ ((nR s0).2=true∧(nR s0).1=(r:Int)))):=by
  have h2:=hnx.1
  refine T.loop nx.length (fun j s=>∃ w,s=((j:Int),i,(r:Int),w)∧(w=true↔w0=true∨(∃ q:Nat,(q:Int)∈nx.take j∧dV bs q r)∧¬ ((nR s0).2=true∧(nR s0).1=(r:Int)))) _ (fun j s hj hs=>?_) ⟨w0,rfl,by simp⟩ (by omega)
  obtain ⟨w,rfl,hw⟩:=hs
  unfold dZ
  refine T.ite (fun h=>?_) (fun h=>?_)
  · rw [decide_eq_true_eq] at h
    have hj':j<nx.length:=by simpa using h
    have hx:aH .i64 (j:Int) 1=((j + 1:Nat):Int):=iD j (by omega)
    have hk:=hnx.2 nx[j] (List.getElem_mem hj')
    obtain ⟨k,hkk⟩:∃ k:Nat,nx[j]=(k:Int):=⟨nx[j].toNat,by omega⟩
    have htk:nx.take (j + 1)=nx.take j++[(k:Int)]:=by rw [List.take_succ_eq_append_getElem hj',hkk]
    have hkN:k<bs.length:=by omega
    have hbk:dV bs k r↔bs[k].getLsbD r=true:=by
      unfold dV
      rw [List.getElem?_eq_getElem hkN]
      simp
    have ext:(∃ q:Nat,(q:Int)∈nx.take (j + 1)∧dV bs q r)↔(∃ q:Nat,(q:Int)∈nx.take j∧dV bs q r)∨bs[k].getLsbD r=true:=by
      rw [htk]
      constructor
      · rintro ⟨q,h1,h2⟩
        rcases List.mem_append.1 h1 with h1 | h1
        · exact .inl ⟨q,h1,h2⟩
        · have:q=k:=by have:=List.mem_singleton.1 h1; omega
          subst this
          exact .inr (hbk.1 h2)
      · rintro (⟨q,h1,h2⟩ | h1)
        · exact ⟨q,List.mem_append_left _ h1,h2⟩
        · exact ⟨k,List.mem_append_right _ (List.mem_singleton.2 rfl),hbk.2 h1⟩
    refine T.ite (fun hww=>T.next ⟨hj',true,by rw [hx],?_⟩) (fun hww=>?_)
    · have h1:=hw.1 hww
      refine ⟨fun _=>?_,fun _=>rfl⟩
      rcases h1 with h1 | ⟨h1,h3⟩
      · exact .inl h1
      · exact .inr ⟨ext.2 (.inl h1),h3⟩
    · have hww:w=false:=hww
      have hno:¬ (w0=true∨(∃ q:Nat,(q:Int)∈nx.take j∧dV bs q r)∧¬ ((nR s0).2=true∧(nR s0).1=(r:Int))):=fun h=>by
        have:=hw.2 h
        rw [hww] at this
        cases this
      refine T.get j rfl hj' ?_
      rw [hkk]
      refine T.get k rfl (by rw [List.length_map]; exact hkN) ?_
      rw [List.getElem_map]
      refine (Dv n _ _ (by have:=yz R bs[k]; omega) (by omega)).bind (fun y hy=>?_)
      have hy2:y=true↔bs[k].getLsbD r=true:=by
        rw [hy,decide_eq_true_eq,yy]
        simp [hr]
      refine T.ite (fun h1=>T.ite (fun h2=>T.next ⟨hj',_,by rw [hx],?_⟩) (fun h2=>T.next ⟨hj',true,by rw [hx],?_⟩)) (fun h1=>T.next ⟨hj',false,by rw [hx],?_⟩)
      · rw [ext]
        have hb:=hy2.1 h1
        simp only [Bool.not_eq_true',beq_eq_false_iff_ne,ne_eq]
        constructor
        · intro hne
          exact .inr ⟨.inr hb,fun hh=>hne hh.2⟩
        · rintro (h3 | ⟨_,h3⟩)
          · exact (hno (.inl h3)).elim
          · exact fun e=>h3 ⟨h2,e⟩
      · rw [ext]
        have hb:=hy2.1 h1
        refine ⟨fun _=>.inr ⟨.inr hb,fun hh=>?_⟩,fun _=>rfl⟩
        rw [h2] at hh
        cases hh.1
      · rw [ext]
        refine ⟨fun h=>(by cases h),fun h=>?_⟩
        rcases h with h | ⟨h | h,h3⟩
        · exact (hno (.inl h)).elim
        · exact (hno (.inr ⟨h,h3⟩)).elim
        · rw [hy2.2 h] at h1
          cases h1
  · rw [decide_eq_false_iff_not] at h
    have e:j=nx.length:=by have:¬ ((j:Int)<(nx.length:Int)):=h; omega
    subst e
    rw [List.take_length] at hw
    exact T.fin ⟨w,rfl,hw⟩

theorem Do {R:Nat} (hR:R≤60) (n:Nat) (hn:5000≤n) (c:bG) (hcR:c.Regs=(R:Int)) (hl:c.Steps.length≤120) (bs:List W) (hbs:LI c R bs []) (i:Nat) (hi:i<c.Steps.length) :
    T (iter (fun s=>d1 n c (bs.map (jg R)) (nR c.Steps[i]) (vf c i) s) n ((i:Int),0)) (fun t=>t=.inl (i:Int)):=by
  refine T.loop R (fun r s=>s=((i:Int),(r:Int))) _ (fun r s hr hs=>?_) rfl (by omega)
  subst hs
  have hib:i<bs.length:=by rw [hbs.len]; exact hi
  have hs:c.Steps[i]?=some c.Steps[i]:=List.getElem?_eq_getElem hi
  unfold d1
  rw [hcR]
  refine T.ite (fun h=>?_) (fun _=>T.fin rfl)
  rw [decide_eq_true_eq] at h
  have hr':r<R:=by simpa using h
  have hx:aH .i64 (r:Int) 1=((r + 1:Nat):Int):=iD r (by omega)
  refine T.get i rfl hi (T.eqb (o4 n _) ((Dv n _ _ (by have:=(wG c.Steps[i]).1; omega) (by omega)).bind (fun w0 hw0=>?_)))
  refine (Dn hR n hn c bs _ _ (by rw [hbs.len]; exact wJ c i hi (by omega)) _ r hr' w0).bind (fun t ht=>?_)
  obtain ⟨w,rfl,hw⟩:=ht
  dsimp only
  refine T.get i rfl (by rw [List.length_map]; exact hib) ?_
  rw [List.getElem_map]
  refine (Dv n _ _ (by have:=yz R bs[i]; omega) (by omega)).bind (fun y hy=>?_)
  have hwn:w=true↔sG c bs i c.Steps[i] r:=by
    rw [hw,hw0,decide_eq_true_eq]
    exact Iff.rfl
  have hyb:y=true↔dV bs i r:=by
    rw [hy,decide_eq_true_eq,yy]
    unfold dV
    rw [List.getElem?_eq_getElem hib]
    simp [hr']
  have hyw:y=w:=by
    have:y=true↔w=true:=by
      rw [hyb,hwn]
      exact ⟨hbs.up i _ hs r hr',hbs.dn i _ hs (fun h=>by cases h) r hr'⟩
    cases y <;> cases w <;> simp_all
  refine T.ite (fun h=>?_) (fun _=>T.ite (fun hwt=>?_) (fun _=>T.next ⟨hr',by rw [hx]⟩))
  · rw [hyw] at h
    simp at h
  · refine (zD (r:=r) n c hl hn i hi).bind (fun b hb=>?_)
    have:b=true:=hb (hbs.lr i r hr' (hyb.1 (by rw [hyw]; exact hwt)))
    rw [this]
    exact T.next ⟨hr',by rw [hx]⟩

theorem AQ (n:Nat) (hn:5000000<n) (c:bG):gm n c=some true:=by
  have:T (gm n c) (fun b=>b=true):=by
    unfold gm nS
    rw [Option.bind_some]
    refine T.ite (fun h=>by cases h) (fun _=>T.ite (fun _=>T.ret rfl) (fun h1=>T.ite (fun _=>T.ret rfl) (fun h2=>?_)))
    rw [decide_eq_false_iff_not] at h1 h2
    have hl:c.Steps.length≤120:=by omega
    obtain ⟨y,hy,hchk⟩:=CC n c hl (by omega) (by omega)
    refine T.eqb hy (T.ite (fun _=>T.ret rfl) (fun h3=>?_))
    have hy0:y=0:=by simpa using h3
    subst hy0
    obtain ⟨hR0,_,hok⟩:=hchk rfl
    obtain ⟨R,hcR⟩:∃ R:Nat,c.Regs=(R:Int):=⟨c.Regs.toNat,by omega⟩
    have hR:R≤60:=by omega
    rw [hcR] at hok
    refine (Dm hR n c hcR hl hy hok hn).bind (fun y7 hy7=>?_)
    obtain ⟨bs,rfl,hbs⟩:=hy7
    refine T.ite (fun h=>?_) (fun _=>?_)
    · rw [List.length_map,hbs.len] at h
      simp at h
    · refine T.bind (P:=fun t=>t=.inl ()) ?_ (fun t ht=>by subst ht; exact T.ret rfl)
      refine T.loop c.Steps.length (fun i s=>s=(i:Int)) _ (fun i s hi hs=>?_) rfl (by omega)
      subst hs
      unfold fm
      refine T.ite (fun h=>?_) (fun _=>T.fin rfl)
      rw [decide_eq_true_eq] at h
      have hi':i<c.Steps.length:=by omega
      refine T.get i rfl hi' (T.eqb (qh n _) (T.eqb (pK n c i hi' (by omega)) ((Do hR n (by omega) c hcR hl bs hbs i hi').bind (fun t ht=>?_))))
      subst ht
      exact T.next ⟨hi',iD i (by omega)⟩
  obtain ⟨r,e,h⟩:=this
  rw [e,h]
theorem zE (c:bG):gm 6000000 c=some true:=AQ _ (by omega) c

end Go.Proofs.YteafbimadlcljaaDoor
