/- Check, by the program: exactly what is right -/
import Derived.Test.YtaiokpalfdbnnaaB7
namespace Go.Proofs.Ytaiokpalfdbnnaa
open Go A

theorem Fp {R:Nat} (hR:R≤1024) (n:Nat) (hn:10≤n) (l:List Int) (hl:l.length≤3) (hr:∀ r∈l,0≤r∧r<(R:Int)) (cs:List (Option WL)) (i:Nat) (hi:i<cs.length) (b:WL) (hb:b.length=nw R) :
    T (cu n l (Cs cs) ((i:Int)).toNat (i:Int) (sW b)) (fun y=>y=false↔∀ r:Nat,(r:Int)∈l→bw b r=true):=by
  unfold cu dZ
  refine T.bind (P:=fun y:Int=>(y<0)↔∀ r:Nat,(r:Int)∈l→bw b r=true) ?_ (fun y hy=>T.ret (by rw [← hy]; simp))
  refine T.bind (P:=Rd (fun _:Unit=>∀ r:Nat,(r:Int)∈l→bw b r=true) (fun y:Int=>0≤y∧¬ ∀ r:Nat,(r:Int)∈l→bw b r=true)) ?_ (fun t ht=>by
    cases t with
    | inl w=>exact T.ret ⟨fun _=>ht,fun _=>by omega⟩
    | inr w=>exact T.ret ⟨fun h=>by have:(0:Int)≤w:=ht.1; omega,fun h=>(ht.2 h).elim⟩)
  refine T.loop l.length (fun j s=>s=(j:Int)∧∀ r:Nat,(r:Int)∈l.take j→bw b r=true) _ (fun j s hj hs=>?_) ⟨rfl,fun r hr=>by simp at hr⟩ (by omega)
  obtain ⟨rfl,hs⟩:=hs
  unfold ct
  refine T.ite (fun h=>?_) (fun h=>T.fin ?_)
  · have h:=of_decide_eq_true h
    have hj':j<l.length:=by omega
    refine T.get j rfl hj' ?_
    have hrr:=hr l[j] (List.getElem_mem hj')
    obtain ⟨r,hr1⟩:∃ r:Nat,l[j]=(r:Int):=⟨l[j].toNat,by omega⟩
    have hmem:(r:Int)∈l:=by rw [← hr1]; exact List.getElem_mem hj'
    have htk:l.take (j + 1)=l.take j++[(r:Int)]:=by rw [List.take_succ_eq_append_getElem hj',hr1]
    rw [hr1] at hrr ⊢
    have:fb n (r:Int) (Cs cs) ((i:Int)).toNat (i:Int) (sW b)=some (!bw b r):=by
      unfold fb
      rw [xx hi,Option.bind_some,kx (by
        rw [Nat.beq_refl,Bool.true_and,Int.toNat_natCast,Nat.blt_eq]
        unfold Cs
        rw [List.length_map]
        exact hi),Mt hR (by omega) n b hb]
      rfl
    refine T.eqb this (T.ite (fun hb=>T.fin ⟨by omega,fun hx=>?_⟩) (fun hb=>T.next ⟨hj',bM j (by omega),fun q hq=>?_⟩))
    · rw [hx r hmem] at hb
      cases hb
    · rw [htk] at hq
      rcases List.mem_append.1 hq with hq | hq
      · exact hs q hq
      · have:q=r:=by have:=List.mem_singleton.1 hq; omega
        subst this
        simpa using hb
  · have h:=of_decide_eq_false h
    have e:j=l.length:=by omega
    subst e
    rw [List.take_length] at hs
    exact hs
theorem GV (n:Nat) (s:ab):T (jc n s) (fun l=>l.length≤3∧∀ x,x∈l↔x∈i9 s):=by
  obtain ⟨l,e,h1⟩:=HR n s
  obtain ⟨l',e',h2⟩:=HU n s
  rw [e] at e'
  cases e'
  exact ⟨l,e,h1.1,h2⟩
def KJ (l:List ab) (cs:List (Option WL)) (k:Nat):Prop:=∀ (s:ab) (b:WL),l[k]?=some s→cs[k]?=some (some b)→∀ r:Nat,(r:Int)∈i9 s→bw b r=true
theorem a3 {R:Nat} (hR0:R≠0) (hR:R≤1024) (n:Nat) (hn:5000<n) (c:aj) (hl:c.Steps.length≤4096) (hok:∀ (k:Nat) (s:ab),c.Steps[k]?=some s→Ok s (R:Int) c.Steps.length) (cs:List (Option WL)) (hcs:CI c.Steps R cs []) :
    T (iter (fun s=>fO n c s) n (Cs cs,0)) (Rd (fun _=>∀ k,k<c.Steps.length→KJ c.Steps cs k) (fun _=>¬ ∀ k,k<c.Steps.length→KJ c.Steps cs k)):=by
  refine T.loop c.Steps.length (fun i s=>s=(Cs cs,(i:Int))∧∀ k,k<i→KJ c.Steps cs k) _ (fun i s hi hs=>?_) ⟨rfl,fun k h=>by omega⟩ (by omega)
  obtain ⟨rfl,hs⟩:=hs
  unfold fO
  refine T.ite (fun h=>?_) (fun h=>T.fin ?_)
  · have h:=of_decide_eq_true h
    have h:(i:Int)<(c.Steps.length:Int):=h
    have hi':i<c.Steps.length:=by omega
    have hx:ae .i64 (i:Int) 1=((i + 1:Nat):Int):=bM i (by omega)
    have hic:i<cs.length:=by have:=hcs.len; omega
    have hsi:c.Steps[i]?=some c.Steps[i]:=List.getElem?_eq_getElem hi'
    refine T.get i rfl hi' (T.eqb (xx hic) (T.matchO (fun e=>T.next ⟨hi',by rw [hx],fun k hk=>?_⟩) (fun z e=>?_)))
    · by_cases ek:k=i
      · subst ek
        rw [Option.map_eq_none_iff] at e
        intro s b _ hb
        rw [List.getElem?_eq_getElem hic,e] at hb
        cases hb
      · exact hs k (by omega)
    rw [Option.map_eq_some_iff] at e
    obtain ⟨b,e,rfl⟩:=e
    have hgb:cs[i]?=some (some b):=by rw [List.getElem?_eq_getElem hic,e]
    have hbl:=hcs.sz i b hgb
    refine T.grd (Ea hR0 hbl) ((GV n _).bind (fun l hlr=>?_))
    refine (Fp hR n (by omega) l hlr.1 (fun r hr=>(hok i _ hsi).rd r ((hlr.2 r).1 hr)) cs i hic b hbl).bind (fun y hy=>T.ite (fun h1=>T.fin (fun hx=>?_)) (fun h1=>T.next ⟨hi',?_,fun k hk=>?_⟩))
    · have:=hy.2 (fun r hr=>hx i hi' _ b hsi hgb r ((hlr.2 _).1 hr))
      rw [h1] at this
      cases this
    · show ((Cs cs).set ((i:Int)).toNat (some (sW b)),ae .i64 (i:Int) 1)=_
      rw [hx,tU,f0 hgb]
    · by_cases ek:k=i
      · subst ek
        intro s b' hs1 hb1 r hr
        rw [hsi] at hs1
        rw [hgb] at hb1
        cases hs1
        cases hb1
        exact hy.1 h1 r ((hlr.2 _).2 hr)
      · exact hs k (by omega)
  · have h:=of_decide_eq_false h
    have h:¬ (i:Int)<(c.Steps.length:Int):=h
    exact fun k hk=>hs k (by omega)
theorem Fq {R:Nat} (hR0:R≠0) (hR:R≤1024) (n:Nat) (hn:1000000<n) (c:aj) (hc:c.Regs=(R:Int)) (h1:1≤c.Steps.length) (hl:c.Steps.length≤4096) (hb:3 * ((64 * nw R + 2) * c.Steps.length) + 1≤1000000) (hok:∀ (k:Nat) (s:ab),c.Steps[k]?=some s→Ok s (R:Int) c.Steps.length) :
    T (ib n c) (fun b=>b=true↔zo c.Steps R):=by
  unfold ib
  have hlen:(List.replicate c.Steps.length (none:Option WL)).length=c.Steps.length:=List.length_replicate
  refine T.grd (by simp [Nat.blt]; omega) ?_
  rw [hc]
  refine T.eqb (Oh hR n _) ?_
  have e0:(List.replicate ((c.Steps.length:Int)).toNat (none:Option (List Int)))=Cs (List.replicate c.Steps.length none):=by
    unfold Cs
    rw [Int.toNat_natCast,List.map_replicate]
    rfl
  rw [e0]
  refine T.eqb (xx (k:=0) (by rw [hlen]; omega)) ?_
  have hset:(Cs (List.replicate c.Steps.length none)).set 0 (some (sW (List.replicate (nw R) 0#64)))=Cs ((List.replicate c.Steps.length none).set 0 (some (List.replicate (nw R) 0#64))):=tU 0 _
  rw [hset]
  have get0:∀ (q:Nat) (b:WL),((List.replicate c.Steps.length (none:Option WL)).set 0 (some (List.replicate (nw R) 0#64)))[q]?=some (some b)→q=0∧b=List.replicate (nw R) 0#64:=fun q b h=>by
    rw [aW (by rw [hlen]; omega)] at h
    split at h
    · rename_i e
      cases h
      exact ⟨e.symm,rfl⟩
    · have:=List.eq_of_mem_replicate (List.mem_of_getElem? h)
      cases this
  have hcel:CI c.Steps R ((List.replicate c.Steps.length (none:Option WL)).set 0 (some (List.replicate (nw R) 0#64))) [0]:=by
    refine ⟨by rw [List.length_set,hlen],fun j b h=>?_,fun j b h r _ _=>?_,⟨_,by rw [aW (by rw [hlen]; omega),if_pos rfl],fun r _=>HV _ r⟩,fun k hk=>?_⟩
    · rw [(get0 j b h).2,List.length_replicate]
    · rw [(get0 j b h).1]
      exact .zero
    · rw [List.mem_singleton.1 hk]
      exact ⟨_,by rw [aW (by rw [hlen]; omega),if_pos rfl]⟩
  have hm:mW R ((List.replicate c.Steps.length (none:Option WL)).set 0 (some (List.replicate (nw R) 0#64))) [0]≤1000000:=by
    have:=rm (Jt R) (64 * nw R + 2) ((List.replicate c.Steps.length (none:Option WL)).set 0 (some (List.replicate (nw R) 0#64))) (fun x hx=>by
      cases x with
      | none=>exact Nat.le_refl _
      | some b =>
        have h5:=GU b
        obtain ⟨q,h6⟩:=List.getElem?_of_mem hx
        have h7:=hcel.sz q b h6
        rw [h7] at h5
        show Az b≤_
        omega)
    rw [List.length_set,hlen] at this
    unfold mW
    rw [List.length_singleton]
    omega
  refine (a1 (B:=1000000) hR0 hR n (by omega) c hl hok (Nat.le_refl _) hn _ [0] hm hcel (fun q hq b s hs hx j hj=>?_)).bind (fun t ht=>?_)
  · exact (hq (List.mem_singleton.2 (get0 q b hx).1)).elim
  obtain ⟨cs,rfl,g1,g2⟩:=ht
  refine (a3 hR0 hR n (by omega) c hl hok cs g1).bind (fun t ht=>?_)
  have way:∀ r,r<R→∀ k,U c.Steps r k→∃ b,cs[k]?=some (some b)∧bw b r=false:=fun r hr k hu=>by
    induction hu with
    | zero =>
      obtain ⟨b,h1,h2⟩:=g1.c0
      exact ⟨b,h1,h2 r hr⟩
    | step hu hs hw hsu ih =>
      obtain ⟨b,h1,h2⟩:=ih
      obtain ⟨b',h3,h4⟩:=g2 _ b _ hs h1 _ hsu
      refine ⟨b',h3,?_⟩
      cases hx:bw b' r with
      | false=>rfl
      | true =>
        rcases h4 r hr hx with h5 | h5
        · rw [h2] at h5
          cases h5
        · rw [hw] at h5
          cases h5
  have iff:(∀ k,k<c.Steps.length→KJ c.Steps cs k)↔zo c.Steps R:=by
    constructor
    · intro h k s hs r hr hrd hu
      obtain ⟨b,h1,h2⟩:=way r hr k hu
      have:=h k (List.getElem?_eq_some_iff.1 hs).1 s b hs h1 r hrd
      rw [h2] at this
      cases this
    · intro h k _ s b hs hb r hrd
      have hr:=(hok k s hs).rd _ hrd
      cases hx:bw b r with
      | true=>rfl
      | false=>exact (h k s hs r (by omega) hrd (g1.way k b hb r (by omega) hx)).elim
  cases t with
  | inl w=>exact T.ret ⟨fun _=>iff.1 ht,fun _=>rfl⟩
  | inr w=>exact T.ret ⟨fun h=>(by cases h),fun h=>(ht (iff.2 h)).elim⟩
theorem Kq (n:Nat) (c:aj) (h1:1≤c.Steps.length) (hl:c.Steps.length≤4096) (hn:5000≤n):T (aJ n c.Steps c.Regs c.Steps (c.Steps.length:Int)) (fun b=>b=false↔∀ (k:Nat) (s:ab),c.Steps[k]?=some s→Ok s c.Regs c.Steps.length):=by
  unfold aJ bN
  refine T.bind (P:=fun y:Int=>y<0↔∀ (k:Nat) (s:ab),c.Steps[k]?=some s→Ok s c.Regs c.Steps.length) ?_ (fun y hy=>T.ret (by rw [← hy]; simp))
  refine T.bind (P:=Rd (fun _:Unit=>∀ (k:Nat) (s:ab),c.Steps[k]?=some s→Ok s c.Regs c.Steps.length) (fun w:Int=>0≤w∧¬ ∀ (k:Nat) (s:ab),c.Steps[k]?=some s→Ok s c.Regs c.Steps.length)) ?_ (fun t ht=>by
    cases t with
    | inl w=>exact T.ret ⟨fun _=>ht,fun _=>by omega⟩
    | inr w=>exact T.ret ⟨fun h=>by have:(0:Int)≤w:=ht.1; omega,fun h=>(ht.2 h).elim⟩)
  refine T.loop c.Steps.length (fun i s=>s=(i:Int)∧∀ (k:Nat) (s:ab),k<i→c.Steps[k]?=some s→Ok s c.Regs c.Steps.length) _ (fun i s hi hs=>?_) ⟨rfl,fun k s h=>by omega⟩ (by omega)
  obtain ⟨rfl,hs⟩:=hs
  unfold bk
  refine T.ite (fun h=>?_) (fun h=>T.fin ?_)
  · have h:=of_decide_eq_true h
    have hi':i<c.Steps.length:=by omega
    have hsi:c.Steps[i]?=some c.Steps[i]:=List.getElem?_eq_getElem hi'
    refine T.get i rfl hi' ?_
    unfold lK
    refine T.bind (P:=fun b=>b=false↔Ok c.Steps[i] c.Regs c.Steps.length) ((Kj n _ _ _ (by omega) (by omega)).bind (fun y hy=>T.ret (by rw [← hy]; simp))) (fun b hb=>?_)
    refine T.ite (fun h2=>T.fin ⟨by omega,fun hx=>?_⟩) (fun h2=>T.next ⟨hi',bM i (by omega),fun k s hk hks=>?_⟩)
    · have:=hb.2 (hx i _ hsi)
      rw [h2] at this
      cases this
    · by_cases e:k=i
      · subst e
        rw [hsi] at hks
        cases hks
        exact hb.1 h2
      · exact hs k s (by omega) hks
  · have h:=of_decide_eq_false h
    exact fun k s hks=>hs k s (by have:=(List.getElem?_eq_some_iff.1 hks).1; omega) hks
theorem pU (n:Nat) (hn:1000000<n) (c:aj) (hb:c.Regs≤150) (hl:c.Steps.length≤400):T (ft n c) (fun y=>y=0↔aK c):=by
  unfold ft
  have no:∀ (_:¬ aK c),T (some (2:Int)) (fun y=>y=0↔aK c):=fun h=>T.ret ⟨fun h=>(by cases h),fun h2=>(h h2).elim⟩
  refine T.ite (fun h=>no (fun hr=>?_)) (fun h1=>T.ite (fun h=>no (fun hr=>?_)) (fun h2=>T.ite (fun h=>no (fun hr=>?_)) (fun h3=>T.ite (fun h=>no (fun hr=>?_)) (fun h4=>?_))))
  · have:=of_decide_eq_true h; have:=hr.regs; omega
  · have:=of_decide_eq_true h; have:=hr.regs; omega
  · have:=of_decide_eq_true h; have:=hr.len; omega
  · have:=of_decide_eq_true h; have:=hr.len; omega
  have h1:=of_decide_eq_false h1
  have h3:=of_decide_eq_false h3
  have h3':1≤c.Steps.length:=by omega
  have hz:c.Steps[c.Steps.length - 1]?=some (c.Steps[c.Steps.length - 1]'(by omega)):=List.getElem?_eq_getElem (by omega)
  refine T.get (c.Steps.length - 1) (GE _ h3' (by omega)) (by omega) ?_
  generalize c.Steps[c.Steps.length - 1]'(by omega)=z at hz
  have hRe:c.Regs=((c.Regs.toNat:Nat):Int):=by omega
  have hnw:nw c.Regs.toNat≤3:=by unfold nw; omega
  have hmul:(64 * nw c.Regs.toNat + 2) * c.Steps.length≤194 * 400:=Nat.mul_le_mul (by omega) hl
  have body:(z.Op=8∨z.Op=10)→T ((aJ n c.Steps c.Regs c.Steps (c.Steps.length:Int)).bind fun y8=>if y8=true then some (2:Int) else if (decide (c.Regs>0))=true then (ib n c).bind fun y11=>if (!y11)=true then some 2 else some 0 else some 0) (fun y=>y=0↔aK c):=fun hop=>by
    refine (Kq n c h3' (by omega) (by omega)).bind (fun b hbk=>T.ite (fun h=>no (fun hr=>?_)) (fun h=>?_))
    · have:=hbk.2 hr.ok
      rw [h] at this
      cases this
    have hok:=hbk.1 h
    have fin:zo c.Steps c.Regs.toNat→aK c:=fun hb=>⟨⟨by omega,by omega⟩,⟨h3',by omega⟩,hok,⟨z,hz,hop⟩,hb⟩
    refine T.ite (fun h5=>?_) (fun h5=>T.ret ⟨fun _=>fin (fun k s hs r hr=>?_),fun _=>rfl⟩)
    · have h5:=of_decide_eq_true h5
      refine (Fq (R:=c.Regs.toNat) (by omega) (by omega) n hn c hRe h3' (by omega) (by omega) (by rw [← hRe]; exact hok)).bind (fun y hy=>T.ite (fun h=>no (fun hr=>?_)) (fun h=>T.ret ⟨fun _=>fin (hy.1 (by simpa using h)),fun _=>rfl⟩))
      have:=hy.2 hr.nb
      rw [this] at h
      cases h
    · have h5:=of_decide_eq_false h5
      omega
  have bad:¬ (z.Op=8∨z.Op=10)→¬ aK c:=fun hx hr=>by
    obtain ⟨s,h5,h6⟩:=hr.last
    rw [hz] at h5
    cases h5
    exact hx h6
  refine T.ite (fun h8=>T.ite (fun h10=>no (bad ?_)) (fun h10=>body (.inr ?_))) (fun h8=>body (.inl ?_))
  · simp only [bne_iff_ne,ne_eq] at h8 h10
    omega
  · simpa using h10
  · simpa using h8

end Go.Proofs.Ytaiokpalfdbnnaa
