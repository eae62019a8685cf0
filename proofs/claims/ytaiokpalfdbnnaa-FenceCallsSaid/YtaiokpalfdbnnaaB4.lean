/- Written, by the reference: exactly when nothing is read that a way leaves unwritten -/
import Derived.Test.YtaiokpalfdbnnaaB3
namespace Go.Proofs.Ytaiokpalfdbnnaa
open Go A

def wt (R:Nat):Option BL→Nat
  | none=>R + 1
  | some b=>cnt b
def sm (R:Nat) (cs:List (Option BL)):Nat:=(cs.map (wt R)).sum
theorem GQ {R:Nat} {cs:List (Option BL)} {j:Nat} (hj:j<cs.length) (x:Option BL):sm R (cs.set j x) + wt R cs[j]=sm R cs + wt R x:=nK (wt R) cs j hj x
/-- Cells: as many as steps, each of so many bits; a bit that is not set tells of a way; the first has none. -/
structure Ca (l:List ab) (R:Nat) (cs:List (Option BL)):Prop where
  len:cs.length=l.length
  sz:∀ (j:Nat) (b:BL),cs[j]?=some (some b)→b.length=R
  way:∀ (j:Nat) (b:BL),cs[j]?=some (some b)→∀ r,r<R→bt b r=false→U l r j
  c0:∃ b,cs[0]?=some (some b)∧∀ r,r<R→bt b r=false
def Cl (l:List ab) (R:Nat) (cs:List (Option BL)) (q:Nat):Prop:=∀ (b:BL) (s:ab),l[q]?=some s→cs[q]?=some (some b)→∀ j,Su l q j→∃ b',cs[j]?=some (some b')∧∀ r,r<R→bt b' r=true→bt b r=true∨B_ s r=true
theorem Ca.set {l:List ab} {R:Nat} {cs:List (Option BL)} (h:Ca l R cs) {j:Nat} (hj:j<cs.length) {b:BL} (hb:b.length=R) (hw:∀ r,r<R→bt b r=false→U l r j) (h0:∀ b0,cs[j]?=some (some b0)→∀ r,bt b0 r=false→bt b r=false) (hn:j=0→cs[j]?≠some none):Ca l R (cs.set j (some b)):=by
  refine ⟨by rw [List.length_set]; exact h.len,fun q x hq=>?_,fun q x hq r hr hx=>?_,?_⟩
  · rw [aW hj] at hq
    split at hq
    · cases hq
      exact hb
    · exact h.sz q x hq
  · rw [aW hj] at hq
    split at hq
    · rename_i e
      subst e
      cases hq
      exact hw r hr hx
    · exact h.way q x hq r hr hx
  · obtain ⟨b0,h1,h2⟩:=h.c0
    by_cases e:j=0
    · subst e
      exact ⟨b,by rw [aW hj,if_pos rfl],fun r hr=>h0 b0 h1 r (h2 r hr)⟩
    · exact ⟨b0,by rw [aW hj,if_neg e]; exact h1,h2⟩
theorem Kk {m:Nat} (h:m≤10000000):Nat.ble (m * 1) 140737488355328=true:=Nat.ble_eq_true_of_le (by omega)
theorem w3 {R:Nat} (n:Nat) (hR:R≤1024) (hn:2000<n) (c:aj) (hc:c.Regs=(R:Int)) (out:BL) (ho:out.length=R) (q:Nat) (nx:List Int) (hnx:mE c.Steps q nx) (how:∀ r,r<R→bt out r=false→∀ j,Su c.Steps q j→U c.Steps r j) (cs:List (Option BL)) (hcs:Ca c.Steps R cs) (ch:Bool) :
    T (iter (fun s=>dm n c s) n (cs,out,0,ch,(q:Int),nx)) (fun t=>∃ cs' ch',t=(cs',ch',(q:Int))∧Ca c.Steps R cs'∧((ch'=ch∧cs'=cs)∨(ch'=true∧sm R cs'<sm R cs))∧(ch'=false→∀ j,Su c.Steps q j→∃ b',cs'[j]?=some (some b')∧∀ r,r<R→bt b' r=true→bt out r=true)):=by
  have h2:=hnx.1
  refine T.loop nx.length (fun k s=>∃ cs' ch',s=(cs',out,(k:Int),ch',(q:Int),nx)∧Ca c.Steps R cs'∧((ch'=ch∧cs'=cs)∨(ch'=true∧sm R cs'<sm R cs))∧(ch'=false→∀ j:Nat,(j:Int)∈nx.take k→∃ b',cs'[j]?=some (some b')∧∀ r,r<R→bt b' r=true→bt out r=true)) _ (fun k s hk hs=>?_) ⟨cs,ch,rfl,hcs,.inl ⟨rfl,rfl⟩,fun _ j hj=>by simp at hj⟩ (by omega)
  obtain ⟨cs',ch',rfl,h3,h4,h5⟩:=hs
  unfold dm
  refine T.ite (fun h=>?_) (fun h=>?_)
  · have h:=of_decide_eq_true h
    have h:(k:Int)<(nx.length:Int):=h
    have hk':k<nx.length:=by omega
    refine T.get k rfl hk' ?_
    have hin:=hnx.2.1 nx[k] (List.getElem_mem hk')
    obtain ⟨j,hjk⟩:∃ j:Nat,nx[k]=(j:Int):=⟨nx[k].toNat,by omega⟩
    have hsu:Su c.Steps q j:=(hnx.2.2 j).1 (by rw [← hjk]; exact List.getElem_mem hk')
    have htk:nx.take (k + 1)=nx.take k++[(j:Int)]:=by rw [List.take_succ_eq_append_getElem hk',hjk]
    have hkx:nx[k]?=some (j:Int):=by rw [List.getElem?_eq_getElem hk',hjk]
    rw [hjk] at hin ⊢
    have hjl:j<cs'.length:=by have:=h3.len; omega
    have hx:ae .i64 (k:Int) 1=((k + 1:Nat):Int):=bM k (by omega)
    refine T.get j rfl hjl (T.matchO (fun e=>?_) (fun b e=>?_))
    · have hjn:cs'[j]?=some none:=by rw [List.getElem?_eq_getElem hjl,e]
      refine T.grd (Kk (by show out.length≤_; omega)) (T.next ⟨hk',cs'.set j (some out),true,?_,h3.set hjl ho (fun r hr hb=>how r hr hb j hsu) (fun b0 hb0=>?_) (fun ej=>?_),.inr ⟨rfl,?_⟩,fun h=>by cases h⟩)
      · rw [hx,Int.toNat_natCast]
      · rw [hjn] at hb0
        cases hb0
      · subst ej
        obtain ⟨b0,hb0,_⟩:=h3.c0
        rw [hb0]
        simp
      · have h6:=GQ (R:=R) hjl (some out)
        rw [e] at h6
        have h7:wt R none=R + 1:=rfl
        have h8:wt R (some out)=cnt out:=rfl
        have:=GO out
        rcases h4 with ⟨_,rfl⟩ | ⟨_,h4⟩ <;> omega
    · have hjb:cs'[j]?=some (some b):=by rw [List.getElem?_eq_getElem hjl,e]
      refine (w4 n (by omega) hR c hc cs' out b k j ch' (q:Int) nx hkx hjl (h3.sz j b hjb) ho hjb).bind (fun t ht=>?_)
      obtain ⟨b',ch2,rfl,g1,g2,g3⟩:=ht
      refine T.next ⟨hk',cs'.set j (some b'),ch2,?_,h3.set hjl g1 (fun r hr hb=>?_) (fun b0 hb0 r hr=>?_) (fun ej h=>?_),?_,fun hc2 i hi=>?_⟩
      · rw [hx]
      · rw [g2,Bool.and_eq_false_iff] at hb
        rcases hb with hb | hb
        · exact h3.way j b hjb r hr hb
        · exact how r hr hb j hsu
      · rw [hjb] at hb0
        cases hb0
        rw [g2,hr]
        rfl
      · rw [hjb] at h
        cases h
      · have h6:=GQ (R:=R) hjl (some b')
        rw [e] at h6
        have h7:wt R (some b)=cnt b:=rfl
        have h8:wt R (some b')=cnt b':=rfl
        rcases g3 with ⟨rfl,rfl⟩ | ⟨rfl,g3⟩
        · rw [f0 hjb]
          exact h4
        · refine .inr ⟨rfl,?_⟩
          rcases h4 with ⟨_,rfl⟩ | ⟨_,h4⟩ <;> omega
      · rcases g3 with ⟨rfl,rfl⟩ | ⟨rfl,g3⟩
        · rw [f0 hjb]
          rw [htk] at hi
          rcases List.mem_append.1 hi with hi | hi
          · exact h5 hc2 i hi
          · have:i=j:=by have:=List.mem_singleton.1 hi; omega
            subst this
            refine ⟨b',hjb,fun r hr hb=>?_⟩
            have:=g2 r
            rw [hb,Bool.true_and] at this
            exact this.symm
        · cases hc2
  · have h:=of_decide_eq_false h
    have h:¬ (k:Int)<(nx.length:Int):=h
    have e:k=nx.length:=by omega
    subst e
    rw [List.take_length] at h5
    exact T.fin ⟨cs',ch',rfl,h3,h4,fun hc j hj=>h5 hc j ((hnx.2.2 j).2 hj)⟩
theorem w2 {R:Nat} (n:Nat) (hR:R≤1024) (hn:5000<n) (c:aj) (hc:c.Regs=(R:Int)) (hl:c.Steps.length≤4096) (hok:∀ (k:Nat) (s:ab),c.Steps[k]?=some s→Ok s (R:Int) c.Steps.length) (cs:List (Option BL)) (hcs:Ca c.Steps R cs) :
    T (iter (fun s=>fR n c s) n (cs,false,0)) (fun t=>∃ cs' ch',t=(cs',ch')∧Ca c.Steps R cs'∧((ch'=false∧cs'=cs)∨(ch'=true∧sm R cs'<sm R cs))∧(ch'=false→∀ q,q<c.Steps.length→Cl c.Steps R cs' q)):=by
  refine T.loop c.Steps.length (fun i s=>∃ cs' ch',s=(cs',ch',(i:Int))∧Ca c.Steps R cs'∧((ch'=false∧cs'=cs)∨(ch'=true∧sm R cs'<sm R cs))∧(ch'=false→∀ q,q<i→Cl c.Steps R cs' q)) _ (fun i s hi hs=>?_) ⟨cs,false,rfl,hcs,.inl ⟨rfl,rfl⟩,fun _ q hq=>by omega⟩ (by omega)
  obtain ⟨cs',ch',rfl,h3,h4,h5⟩:=hs
  unfold fR
  refine T.ite (fun h=>?_) (fun h=>?_)
  · have h:=of_decide_eq_true h
    have h:(i:Int)<(c.Steps.length:Int):=h
    have hi':i<c.Steps.length:=by omega
    have hil:i<cs'.length:=by have:=h3.len; omega
    have hx:ae .i64 (i:Int) 1=((i + 1:Nat):Int):=bM i (by omega)
    have hs:c.Steps[i]?=some c.Steps[i]:=List.getElem?_eq_getElem hi'
    refine T.get i rfl hil (T.matchO (fun e=>T.next ⟨hi',cs',ch',by rw [hx],h3,h4,fun hc q hq=>?_⟩) (fun b e=>?_))
    · by_cases eq:q=i
      · subst eq
        intro b s _ hb
        rw [List.getElem?_eq_getElem hil,e] at hb
        cases hb
      · exact h5 hc q (by omega)
    · have hib:cs'[i]?=some (some b):=by rw [List.getElem?_eq_getElem hil,e]
      have hbl:=h3.sz i b hib
      refine T.grd (Kk (by omega)) (T.get i rfl hi' (T.eqb (GI n _) ?_))
      have done:∀ o:BL,o.length=R→(∀ r,r<R→bt o r=(bt b r||B_ c.Steps[i] r))→T ((fP n c (i:Int)).bind fun yb=>(iter (fun s=>dm n c s) n (cs',o,0,ch',(i:Int),yb)).bind fun tb=>some (.inl (tb.1,tb.2.1,(ae .i64 tb.2.2 1)):(List (Option BL)×Bool×Int)⊕(List (Option BL)×Bool))) (Rd (fun s'=>i<c.Steps.length∧∃ cs' ch',s'=(cs',ch',((i + 1:Nat):Int))∧Ca c.Steps R cs'∧((ch'=false∧cs'=cs)∨(ch'=true∧sm R cs'<sm R cs))∧(ch'=false→∀ q,q<i + 1→Cl c.Steps R cs' q)) (fun t=>∃ cs' ch',t=(cs',ch')∧Ca c.Steps R cs'∧((ch'=false∧cs'=cs)∨(ch'=true∧sm R cs'<sm R cs))∧(ch'=false→∀ q,q<c.Steps.length→Cl c.Steps R cs' q))):=fun o ho hob=>by
        refine (D5 n (by omega) c i hi' (by omega)).bind (fun nx hnx=>(w3 n hR (by omega) c hc o ho i nx hnx (fun r hr hb j hj=>?_) cs' h3 ch').bind (fun t ht=>?_))
        · rw [hob r hr,Bool.or_eq_false_iff] at hb
          exact .step (h3.way i b hib r hr hb.1) hs hb.2 hj
        · obtain ⟨cs2,ch2,rfl,g1,g2,g3⟩:=ht
          refine T.next ⟨hi',cs2,ch2,by rw [hx],g1,?_,fun hc2 q hq=>?_⟩
          · rcases g2 with ⟨rfl,rfl⟩ | ⟨rfl,g2⟩
            · exact h4
            · refine .inr ⟨rfl,?_⟩
              rcases h4 with ⟨_,rfl⟩ | ⟨_,h4⟩ <;> omega
          · by_cases eq:q=i
            · subst eq
              intro b1 s1 hs1 hb1 j hj
              rw [hs] at hs1
              cases hs1
              rcases g2 with ⟨rfl,rfl⟩ | ⟨rfl,g2⟩
              · rw [hib] at hb1
                cases hb1
                obtain ⟨b',k1,k2⟩:=g3 hc2 j hj
                refine ⟨b',k1,fun r hr hb=>?_⟩
                have:=k2 r hr hb
                rw [hob r hr,Bool.or_eq_true] at this
                exact this
              · cases hc2
            · rcases g2 with ⟨rfl,rfl⟩ | ⟨rfl,g2⟩
              · exact h5 hc2 q (by omega)
              · cases hc2
      refine T.ite (fun hw=>?_) (fun hw=>?_)
      · obtain ⟨r,hr1,hr2,hr3⟩:=(hok i _ hs).wr hw
        rw [hr1]
        have hrR:r<R:=by omega
        refine T.get r rfl (by omega) (done _ (by rw [List.length_set]; exact hbl) (fun q hq=>?_))
        rw [Int.toNat_natCast,GP (by omega),hr3]
        split
        · rename_i e
          rw [decide_eq_true e.symm,Bool.or_true]
        · rename_i e
          rw [decide_eq_false (fun e2=>e e2.symm),Bool.or_false]
      · exact done b hbl (fun r hr=>by rw [GN hw,Bool.or_false])
  · have h:=of_decide_eq_false h
    have h:¬ (i:Int)<(c.Steps.length:Int):=h
    exact T.fin ⟨cs',ch',rfl,h3,h4,fun hc q hq=>h5 hc q (by omega)⟩
theorem w1 {R:Nat} (n:Nat) (hR:R≤1024) (c:aj) (hc:c.Regs=(R:Int)) (hl:c.Steps.length≤4096) (hok:∀ (k:Nat) (s:ab),c.Steps[k]?=some s→Ok s (R:Int) c.Steps.length) (cs:List (Option BL)) (hcs:Ca c.Steps R cs) (hn:5000<n) (hm:2 * sm R cs + 1<n) :
    T (iter (fun s=>fS n c s) n (cs,true)) (fun t=>Ca c.Steps R t∧∀ q,q<c.Steps.length→Cl c.Steps R t q):=by
  refine T.down (fun s=>Ca c.Steps R s.1∧(s.2=false→∀ q,q<c.Steps.length→Cl c.Steps R s.1 q)) (fun s=>2 * sm R s.1 + s.2.toNat) _ (fun s hs=>?_) n _ ⟨hcs,fun h=>by cases h⟩ (by exact hm)
  obtain ⟨cs,ch⟩:=s
  unfold fS
  refine T.ite (fun h=>?_) (fun h=>T.fin ⟨hs.1,hs.2 h⟩)
  have h:ch=true:=h
  subst h
  refine (w2 n hR hn c hc hl hok cs hs.1).bind (fun t ht=>?_)
  obtain ⟨cs',ch',rfl,g1,g2,g3⟩:=ht
  refine T.next ⟨⟨g1,g3⟩,?_⟩
  show 2 * sm R cs' + ch'.toNat<2 * sm R cs + 1
  rcases g2 with ⟨rfl,rfl⟩ | ⟨rfl,g2⟩
  · simp
  · simp
    omega

/-! ### What is read is written -/
def De (l:List ab) (cs:List (Option BL)) (k:Nat):Prop:=∀ (s:ab) (b:BL),l[k]?=some s→cs[k]?=some (some b)→∀ r:Nat,(r:Int)∈i9 s→bt b r=true
theorem w5 {R:Nat} (n:Nat) (hn:5000<n) (c:aj) (hl:c.Steps.length≤4096) (hok:∀ (k:Nat) (s:ab),c.Steps[k]?=some s→Ok s (R:Int) c.Steps.length) (cs:List (Option BL)) (hcs:Ca c.Steps R cs) :
    T (iter (fun s=>fU n c cs s) n 0) (Rd (fun _=>∀ k,k<c.Steps.length→De c.Steps cs k) (fun _=>¬ ∀ k,k<c.Steps.length→De c.Steps cs k)):=by
  refine T.loop c.Steps.length (fun i s=>s=(i:Int)∧∀ k,k<i→De c.Steps cs k) _ (fun i s hi hs=>?_) ⟨rfl,fun k h=>by omega⟩ (by omega)
  obtain ⟨rfl,hs⟩:=hs
  unfold fU
  refine T.ite (fun h=>?_) (fun h=>?_)
  · have h:=of_decide_eq_true h
    have hi':i<c.Steps.length:=by omega
    have hil:i<cs.length:=by have:=hcs.len; omega
    have hsi:c.Steps[i]?=some c.Steps[i]:=List.getElem?_eq_getElem hi'
    have hx:ae .i64 (i:Int) 1=((i + 1:Nat):Int):=bM i (by omega)
    refine T.get i rfl hi' ((GJ n (by omega) _).bind (fun l hlr=>?_))
    have key:T (iter (fun s=>fT n c cs l s) n ((i:Int),0)) (Rd (fun w=>w=(i:Int)∧De c.Steps cs i) (fun _=>¬ De c.Steps cs i)):=by
      refine T.loop l.length (fun m s=>s=((i:Int),(m:Int))∧∀ r:Nat,(r:Int)∈l.take m→∀ b:BL,cs[i]?=some (some b)→bt b r=true) _ (fun m s hm hs=>?_) ⟨rfl,fun r hr=>by simp at hr⟩ (by have:=hlr.1; omega)
      obtain ⟨rfl,hs⟩:=hs
      unfold fT
      refine T.ite (fun h=>?_) (fun h=>?_)
      · have h:=of_decide_eq_true h
        have h:(m:Int)<(l.length:Int):=h
        have hm':m<l.length:=by omega
        refine T.get i rfl hil (T.matchO (fun e=>T.fin ⟨rfl,fun s b _ hb=>?_⟩) (fun b e=>?_))
        · rw [List.getElem?_eq_getElem hil,e] at hb
          cases hb
        · have hib:cs[i]?=some (some b):=by rw [List.getElem?_eq_getElem hil,e]
          have hbl:=hcs.sz i b hib
          have hmem:l[m]∈i9 c.Steps[i]:=(hlr.2 _).1 (List.getElem_mem hm')
          have hrr:=(hok i _ hsi).rd _ hmem
          obtain ⟨r,hr1⟩:∃ r:Nat,l[m]=(r:Int):=⟨l[m].toNat,by omega⟩
          rw [hr1] at hrr hmem
          have hcb:dU b=true:=by
            cases b with
            | nil=>simp at hbl; omega
            | cons x b=>rfl
          have htk:l.take (m + 1)=l.take m++[(r:Int)]:=by rw [List.take_succ_eq_append_getElem hm',hr1]
          refine T.grd hcb (T.get m rfl hm' ?_)
          rw [hr1]
          have hrb:r<b.length:=by omega
          refine T.get r rfl hrb (T.ite (fun hb1=>T.fin (fun hx=>?_)) (fun hb1=>T.next ⟨hm',?_,fun q hq b' hb'=>?_⟩))
          · have:=hx _ b hsi hib r hmem
            rw [BV hrb] at this
            rw [this] at hb1
            cases hb1
          · rw [show ae .i64 (m:Int) 1=((m + 1:Nat):Int) from bM m (by have:=hlr.1; omega)]
          · rw [htk] at hq
            rcases List.mem_append.1 hq with hq | hq
            · exact hs q hq b' hb'
            · have:q=r:=by have:=List.mem_singleton.1 hq; omega
              subst this
              rw [hib] at hb'
              cases hb'
              rw [BV hrb]
              simpa using hb1
      · have h:=of_decide_eq_false h
        have h:¬ (m:Int)<(l.length:Int):=h
        have e:m=l.length:=by omega
        subst e
        rw [List.take_length] at hs
        refine T.fin ⟨rfl,fun s b hs1 hb r hr=>?_⟩
        rw [hsi] at hs1
        cases hs1
        exact hs r ((hlr.2 _).2 hr) b hb
    refine key.bind (fun w hw=>?_)
    cases w with
    | inl w =>
      obtain ⟨rfl,h6⟩:=hw
      refine T.next ⟨hi',hx,fun k hk=>?_⟩
      by_cases e:k=i
      · subst e
        exact h6
      · exact hs k (by omega)
    | inr w =>
      have hw:¬ De c.Steps cs i:=hw
      exact T.fin (fun h=>hw (h i hi'))
  · have h:=of_decide_eq_false h
    exact T.fin (fun k hk=>hs k (by omega))
theorem Fo {R:Nat} (n:Nat) (hn:1000000<n) (c:aj) (hc:c.Regs=(R:Int)) (hR:R≤1024) (h1:1≤c.Steps.length) (hl:c.Steps.length≤4096) (hb:(R + 1) * c.Steps.length≤400000) (hok:∀ (k:Nat) (s:ab),c.Steps[k]?=some s→Ok s (R:Int) c.Steps.length) :
    T (ic n c) (fun b=>b=true↔zo c.Steps R):=by
  unfold ic
  have hlen:(List.replicate c.Steps.length (none:Option BL)).length=c.Steps.length:=List.length_replicate
  refine T.grd (by simp [Nat.blt]; omega) (T.grd (by rw [hc]; simp [Nat.blt]; omega) ?_)
  rw [hc,Int.toNat_natCast,Int.toNat_natCast]
  refine T.get 0 rfl (by rw [hlen]; omega) ?_
  have get0:∀ (q:Nat) (b:BL),((List.replicate c.Steps.length (none:Option BL)).set 0 (some (List.replicate R false)))[q]?=some (some b)→q=0∧b=List.replicate R false:=fun q b h=>by
    rw [aW (by rw [hlen]; omega)] at h
    split at h
    · rename_i e
      cases h
      exact ⟨e.symm,rfl⟩
    · have:=List.eq_of_mem_replicate (List.mem_of_getElem? h)
      cases this
  have hz:∀ r,bt (List.replicate R false) r=false:=fun r=>by
    unfold bt
    by_cases h:r<R
    · rw [List.getElem?_replicate,if_pos h]
      rfl
    · rw [List.getElem?_replicate,if_neg h]
      rfl
  have hcel:Ca c.Steps R ((List.replicate c.Steps.length (none:Option BL)).set 0 (some (List.replicate R false))):=by
    refine ⟨by rw [List.length_set,hlen],fun j b h=>?_,fun j b h r _ _=>?_,⟨_,by rw [aW (by rw [hlen]; omega),if_pos rfl],fun r _=>hz r⟩⟩
    · rw [(get0 j b h).2,List.length_replicate]
    · rw [(get0 j b h).1]
      exact .zero
  have hsm:sm R ((List.replicate c.Steps.length (none:Option BL)).set 0 (some (List.replicate R false)))≤(R + 1) * c.Steps.length:=by
    have:=rm (wt R) (R + 1) ((List.replicate c.Steps.length (none:Option BL)).set 0 (some (List.replicate R false))) (fun x hx=>by
      cases x with
      | none=>exact Nat.le_refl _
      | some b =>
        have h5:=GO b
        obtain ⟨q,h6⟩:=List.getElem?_of_mem hx
        have h7:=hcel.sz q b h6
        show cnt b≤R + 1
        omega)
    rw [List.length_set,hlen] at this
    exact this
  refine (w1 n hR c hc hl hok _ hcel (by omega) (by omega)).bind (fun cs hcs=>(w5 n (by omega) c hl hok cs hcs.1).bind (fun t ht=>?_))
  obtain ⟨g1,g2⟩:=hcs
  have way:∀ r,r<R→∀ k,U c.Steps r k→∃ b,cs[k]?=some (some b)∧bt b r=false:=fun r hr k hu=>by
    induction hu with
    | zero =>
      obtain ⟨b,h1,h2⟩:=g1.c0
      exact ⟨b,h1,h2 r hr⟩
    | step hu hs hw hsu ih =>
      obtain ⟨b,h1,h2⟩:=ih
      obtain ⟨b',h3,h4⟩:=g2 _ (List.getElem?_eq_some_iff.1 hs).1 b _ hs h1 _ hsu
      refine ⟨b',h3,?_⟩
      cases hx:bt b' r with
      | false=>rfl
      | true =>
        rcases h4 r hr hx with h5 | h5
        · rw [h2] at h5
          cases h5
        · rw [hw] at h5
          cases h5
  have iff:(∀ k,k<c.Steps.length→De c.Steps cs k)↔zo c.Steps R:=by
    constructor
    · intro h k s hs r hr hrd hu
      obtain ⟨b,h1,h2⟩:=way r hr k hu
      have:=h k (List.getElem?_eq_some_iff.1 hs).1 s b hs h1 r hrd
      rw [h2] at this
      cases this
    · intro h k _ s b hs hb r hrd
      have hr:=(hok k s hs).rd _ hrd
      cases hx:bt b r with
      | true=>rfl
      | false=>exact (h k s hs r (by omega) hrd (g1.way k b hb r (by omega) hx)).elim
  cases t with
  | inl w=>exact T.ret ⟨fun _=>iff.1 ht,fun _=>rfl⟩
  | inr w=>exact T.ret ⟨fun h=>(by cases h),fun h=>(ht (iff.2 h)).elim⟩

end Go.Proofs.Ytaiokpalfdbnnaa
