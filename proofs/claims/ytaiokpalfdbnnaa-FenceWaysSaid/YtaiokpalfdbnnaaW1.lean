/- Fenced: no way comes to a shared step that is open; taking away single fences -/
import Derived.Test.YtaiokpalfdbnnaaC5
namespace Go.Proofs.Ytaiokpalfdbnnaa
open Go A

def sM (l:List ab):Prop:=∀ (k:Nat) (s:ab),l[k]?=some s→uw s=true→¬ D l k true
theorem ww {o o':Bool} {s:ab} (h:o=true→o'=true) (ho:out o s=true):out o' s=true:=by
  unfold out at ho ⊢
  rw [Bool.and_eq_true,Bool.or_eq_true] at ho ⊢
  exact ⟨ho.1,ho.2.imp h id⟩
theorem Cg (f:Nat→Nat) (o:Bool) (s:ab):out o (mv f s)=out o s:=by
  unfold out
  rw [FP,C4]
theorem IZ {c:ax} (h:cg c) {p:Nat→Bool} {m:Nat} {o:Bool} (hu:D (gv p c.Steps) m o):∃ i o',i<c.Steps.length∧D c.Steps i o'∧(o=true→o'=true)∧(m=ps p i∨(p i=true∧m=ps p i + 1∧o=false)):=by
  induction hu with
  | zero=>exact ⟨0,false,h.len.1,.zero,id,.inl rfl⟩
  | @step k m o s' hu hs hsu ih =>
    obtain ⟨i,o',hi,hui,hoo,hc⟩:=ih
    obtain ⟨j,s,hsj,hx⟩:=uz hs
    have hjN:=(List.getElem?_eq_some_iff.1 hsj).1
    have h3:ps p (i + 1)=ps p i + (if p i=true then 2 else 1):=rfl
    have h3j:ps p (j + 1)=ps p j + (if p j=true then 2 else 1):=rfl
    have eij:i=j:=by
      have b1:ps p j≤k∧k<ps p (j + 1):=by
        rcases hx with ⟨hp,e,_⟩ | ⟨e,_⟩
        · rw [if_pos hp] at h3j; omega
        · split at h3j <;> omega
      have b2:ps p i≤k∧k<ps p (i + 1):=by
        rcases hc with e | ⟨hp,e,_⟩
        · split at h3 <;> omega
        · rw [if_pos hp] at h3; omega
      rcases Nat.lt_trichotomy i j with e | e | e
      · have:=mU (p:=p) (show i + 1≤j by omega); omega
      · exact e
      · have:=mU (p:=p) (show j + 1≤i by omega); omega
    subst eij
    obtain ⟨t,ht,hml,hcase⟩:=hsu
    rw [hs] at ht
    cases ht
    rcases hx with ⟨hp,rfl,rfl⟩ | ⟨e,rfl⟩
    · rcases hcase with ⟨_,_,rfl⟩ | ⟨hj,_⟩
      · exact ⟨i,o',hi,hui,fun hx=>(by cases hx),.inr ⟨hp,rfl,rfl⟩⟩
      · rcases hj with hj | hj <;> cases hj
    · rw [Cg]
      rw [m9] at hcase
      rcases hcase with ⟨h8,h10,rfl⟩ | ⟨hj,hto⟩
      · have hn:=h.not_last hsj h8 h10
        exact ⟨i + 1,_,hn,.step hui hsj ⟨s,hsj,hn,.inl ⟨h8,h10,rfl⟩⟩,ww hoo,.inl e⟩
      · rw [yl _ hj] at hto
        obtain ⟨h0,hlt⟩:=h.to hsj hj
        exact ⟨s.To.toNat,_,hlt,.step hui hsj ⟨s,hsj,hlt,.inr ⟨hj,by omega⟩⟩,ww hoo,.inl (by omega)⟩
theorem GK {c:ax} (h:cg c):sM (gv (pD c.Steps) c.Steps):=fun m s hs hsh hd=>by
  obtain ⟨i,o',hi,hdi,hoo,hc⟩:=IZ h hd
  have hsi:c.Steps[i]?=some c.Steps[i]:=List.getElem?_eq_getElem hi
  obtain ⟨h1,_⟩:=sL (p:=pD c.Steps) hsi
  have ho':=hoo rfl
  subst ho'
  rcases hc with rfl | ⟨_,_,h2⟩
  · rw [hs] at h1
    by_cases hp:pD c.Steps i=true
    · rw [if_pos hp] at h1
      cases h1
      cases hsh
    · rw [if_neg hp] at h1
      cases h1
      rw [C4] at hsh
      exact hp (zw.2 ⟨hdi,_,hsi,hsh⟩)
  · cases h2
/-- A jump to the next step in place of a fence. -/
def pG (i:Nat):ab:=ab.mk 8 0 0 0 0 0 0 ((i:Nat):Int) false
theorem Eg {c:ax} (hl:∀ s∈c.Steps,nf s=true) {k:Nat} (hp:pD c.Steps k=true):¬ sM ((gv (pD c.Steps) c.Steps).set (ps (pD c.Steps) k) (pG (ps (pD c.Steps) k + 1))):=fun hf=>by
  obtain ⟨hdk,sk,hsk,hshk⟩:=zw.1 hp
  have hkN:=(List.getElem?_eq_some_iff.1 hsk).1
  have hlen:=mT (pD c.Steps) c.Steps
  have hklt:ps (pD c.Steps) k<(gv (pD c.Steps) c.Steps).length:=by rw [hlen]; exact l3 hkN
  have hps1:ps (pD c.Steps) (k + 1)=ps (pD c.Steps) k + (if pD c.Steps k=true then 2 else 1):=rfl
  rw [if_pos hp] at hps1
  have hle:ps (pD c.Steps) (k + 1)≤ps (pD c.Steps) c.Steps.length:=mU (by omega)
  have dlen:((gv (pD c.Steps) c.Steps).set (ps (pD c.Steps) k) (pG (ps (pD c.Steps) k + 1))).length=ps (pD c.Steps) c.Steps.length:=by rw [List.length_set,hlen]
  have dat:∀ q,((gv (pD c.Steps) c.Steps).set (ps (pD c.Steps) k) (pG (ps (pD c.Steps) k + 1)))[q]?=if ps (pD c.Steps) k=q then some (pG (ps (pD c.Steps) k + 1)) else (gv (pD c.Steps) c.Steps)[q]?:=fun q=>bu hklt
  have pass:∀ o,D ((gv (pD c.Steps) c.Steps).set (ps (pD c.Steps) k) (pG (ps (pD c.Steps) k + 1))) (ps (pD c.Steps) k) o→D ((gv (pD c.Steps) c.Steps).set (ps (pD c.Steps) k) (pG (ps (pD c.Steps) k + 1))) (ps (pD c.Steps) k + 1) o:=fun o hd=>by
    have hj:((gv (pD c.Steps) c.Steps).set (ps (pD c.Steps) k) (pG (ps (pD c.Steps) k + 1)))[ps (pD c.Steps) k]?=some (pG (ps (pD c.Steps) k + 1)):=by rw [dat,if_pos rfl]
    have:=D.step hd hj ⟨_,hj,by rw [dlen]; omega,.inr ⟨.inl rfl,rfl⟩⟩
    have e:out o (pG (ps (pD c.Steps) k + 1))=o:=by cases o <;> rfl
    rw [e] at this
    exact this
  have way:∀ m o,D c.Steps m o→∃ o',D ((gv (pD c.Steps) c.Steps).set (ps (pD c.Steps) k) (pG (ps (pD c.Steps) k + 1))) (ps (pD c.Steps) m) o'∧(o=true→o'=true):=fun m o hd=>by
    induction hd with
    | zero=>exact ⟨false,.zero,id⟩
    | @step q m o s hd hs hsu ih =>
      obtain ⟨o',hd',hoo⟩:=ih
      have hqN:=(List.getElem?_eq_some_iff.1 hs).1
      obtain ⟨h1,h2⟩:=sL (p:=pD c.Steps) hs
      have hq1:ps (pD c.Steps) (q + 1)=ps (pD c.Steps) q + (if pD c.Steps q=true then 2 else 1):=rfl
      have hqle:ps (pD c.Steps) (q + 1)≤ps (pD c.Steps) c.Steps.length:=mU (by omega)
      have hnf:=hl s (List.mem_of_getElem? hs)
      obtain ⟨hmN,hcase⟩:=(zp hs).1 hsu
      have last:∀ (pos:Nat) (o'':Bool),D ((gv (pD c.Steps) c.Steps).set (ps (pD c.Steps) k) (pG (ps (pD c.Steps) k + 1))) pos o''→((gv (pD c.Steps) c.Steps).set (ps (pD c.Steps) k) (pG (ps (pD c.Steps) k + 1)))[pos]?=some (mv (ps (pD c.Steps)) s)→pos + 1=ps (pD c.Steps) (q + 1)→D ((gv (pD c.Steps) c.Steps).set (ps (pD c.Steps) k) (pG (ps (pD c.Steps) k + 1))) (ps (pD c.Steps) m) (out o'' s):=fun pos o'' hdp hat hpos=>by
        have hlt:ps (pD c.Steps) m<ps (pD c.Steps) c.Steps.length:=l3 hmN
        have:=D.step hdp hat (i:=ps (pD c.Steps) m) ⟨_,hat,by rw [dlen]; exact hlt,by
          rw [m9]
          rcases hcase with ⟨h8,h10,rfl⟩ | ⟨hj,hto⟩
          · exact .inl ⟨h8,h10,hpos.symm⟩
          · refine .inr ⟨hj,?_⟩
            rw [yl _ hj,hto,Int.toNat_natCast]⟩
        rw [Cg] at this
        exact this
      by_cases hpq:pD c.Steps q=true
      · rw [if_pos hpq] at h1 hq1
        obtain ⟨_,t,h3,h4⟩:=zw.1 hpq
        rw [hs] at h3
        cases h3
        have hat:((gv (pD c.Steps) c.Steps).set (ps (pD c.Steps) k) (pG (ps (pD c.Steps) k + 1)))[ps (pD c.Steps) q + 1]?=some (mv (ps (pD c.Steps)) s):=by
          rw [dat,if_neg (fun e=>?_)]
          · exact h2 hpq
          · rcases Nat.lt_trichotomy k q with e2 | e2 | e2
            · have:=l3 (p:=pD c.Steps) e2; omega
            · subst e2; omega
            · have:=mU (p:=pD c.Steps) (show q + 1≤k by omega); omega
        have tr:out true s=true:=by unfold out; rw [hnf]; rfl
        have any:∀ o'',out o'' s=true:=fun o''=>by unfold out; rw [hnf,h4,Bool.or_true]; rfl
        by_cases ekq:k=q
        · subst ekq
          have:=last _ _ (pass o' hd') hat (by omega)
          exact ⟨_,this,fun _=>any _⟩
        · have hne:ps (pD c.Steps) k≠ps (pD c.Steps) q:=fun e=>by
            rcases Nat.lt_trichotomy k q with e2 | e2 | e2
            · have:=l3 (p:=pD c.Steps) e2; omega
            · exact ekq e2
            · have:=l3 (p:=pD c.Steps) e2; omega
          have hfat:((gv (pD c.Steps) c.Steps).set (ps (pD c.Steps) k) (pG (ps (pD c.Steps) k + 1)))[ps (pD c.Steps) q]?=some lH:=by
            rw [dat,if_neg hne]
            exact h1
          have h5:=D.step hd' hfat (i:=ps (pD c.Steps) q + 1) ⟨_,hfat,by rw [dlen]; omega,.inl ⟨by decide,by decide,rfl⟩⟩
          exact ⟨_,last _ _ h5 hat (by omega),fun _=>any _⟩
      · rw [if_neg hpq] at h1 hq1
        have hat:((gv (pD c.Steps) c.Steps).set (ps (pD c.Steps) k) (pG (ps (pD c.Steps) k + 1)))[ps (pD c.Steps) q]?=some (mv (ps (pD c.Steps)) s):=by
          rw [dat,if_neg (fun e=>?_)]
          · exact h1
          · rcases Nat.lt_trichotomy k q with e2 | e2 | e2
            · have:=l3 (p:=pD c.Steps) e2; omega
            · subst e2; exact hpq hp
            · have:=l3 (p:=pD c.Steps) e2; omega
        exact ⟨_,last _ _ hd' hat (by omega),ww hoo⟩
  obtain ⟨o',hd,ho⟩:=way k true hdk
  rw [ho rfl] at hd
  refine hf (ps (pD c.Steps) k + 1) (mv (ps (pD c.Steps)) sk) ?_ (by rw [C4]; exact hshk) (pass true hd)
  rw [dat,if_neg (by omega)]
  exact (sL hsk).2 hp

/-! ### Some steps away -/
def j6 (g:Nat→Bool):Nat→Nat
  | 0=>0
  | i + 1=>j6 g i + (if g i=true then 0 else 1)
def g6 (g:Nat→Bool) (l:List ab):Nat→List ab
  | 0=>[]
  | i + 1=>g6 g l i++(match l[i]? with
    | some s=>if g i=true then [] else [s]
    | none=>[])
def d7 (g:Nat→Bool) (l:List ab):List ab:=(g6 g l l.length).map (mv (j6 g))
theorem je {g:Nat→Bool} {l:List ab} {i:Nat} {s:ab} (h:l[i]?=some s):g6 g l (i + 1)=g6 g l i++(if g i=true then [] else [s]):=by
  show g6 g l i++_=_
  rw [h]
theorem oP {g:Nat→Bool} {l:List ab}:∀ {i:Nat},i≤l.length→(g6 g l i).length=j6 g i
  | 0,_=>rfl
  | i + 1,h=>by
    have hs:l[i]?=some (l[i]'(by omega)):=List.getElem?_eq_getElem (by omega)
    rw [je hs,List.length_append,oP (by omega)]
    show _=j6 g i + _
    split <;> rfl
theorem A2 {g:Nat→Bool}:∀ {i j:Nat},i≤j→j6 g i≤j6 g j
  | i,0,h=>by rw [show i=0 by omega]; exact Nat.le_refl _
  | i,j + 1,h=>by
    by_cases e:i=j + 1
    · rw [e]; exact Nat.le_refl _
    · have:=A2 (g:=g) (show i≤j by omega)
      show _≤j6 g j + _
      omega
theorem zx (g:Nat→Bool):∀ i,j6 g i≤i
  | 0=>Nat.le_refl _
  | i + 1=>by
    have:=zx g i
    show j6 g i + _≤i + 1
    split <;> omega
theorem A3 {g:Nat→Bool} {l:List ab}:∀ {n:Nat},n≤l.length→∀ {i:Nat} {s:ab},i<n→l[i]?=some s→g i=false→(g6 g l n)[j6 g i]?=some s
  | n + 1,hn,i,s,hi,hs,hg=>by
    have hsn:l[n]?=some (l[n]'(by omega)):=List.getElem?_eq_getElem (by omega)
    have hlen:=oP (g:=g) (l:=l) (i:=n) (by omega)
    rw [je hsn]
    by_cases e:i=n
    · subst e
      rw [hsn] at hs
      cases hs
      rw [List.getElem?_append_right (by omega),hlen,Nat.sub_self,hg]
      rfl
    · have h1:=A3 (n:=n) (by omega) (show i<n by omega) hs hg
      have h2:=(List.getElem?_eq_some_iff.1 h1).1
      rw [List.getElem?_append_left h2]
      exact h1
theorem sN {g:Nat→Bool} {l:List ab}:∀ {n:Nat} {s:ab},s∈g6 g l n→∃ i,l[i]?=some s∧g i=false
  | n + 1,s,h=>by
    have h:s∈g6 g l n++_:=h
    rcases List.mem_append.1 h with h | h
    · exact sN h
    · cases hs:l[n]? with
      | none=>rw [hs] at h; cases h
      | some t =>
        rw [hs] at h
        dsimp only at h
        split at h
        · cases h
        · rename_i e
          rw [List.mem_singleton.1 h]
          exact ⟨n,hs,by simpa using e⟩
theorem l4 (g:Nat→Bool) (l:List ab):(d7 g l).length=j6 g l.length:=by
  unfold d7
  rw [List.length_map,oP (Nat.le_refl _)]
theorem rz {g:Nat→Bool} {l:List ab} {i:Nat} {s:ab} (hs:l[i]?=some s) (hg:g i=false):(d7 g l)[j6 g i]?=some (mv (j6 g) s):=by
  unfold d7
  rw [List.getElem?_map,A3 (Nat.le_refl _) (List.getElem?_eq_some_iff.1 hs).1 hs hg]
  rfl
/-- Only fences are cV. -/
def A4 (g:Nat→Bool) (l:List ab):Prop:=∀ (i:Nat) (s:ab),l[i]?=some s→g i=true→s.Op=7
theorem A5 {c:ax} (h:cg c) {g:Nat→Bool} (hg:A4 g c.Steps) (P:Nat→Prop) (hP:∀ i s,P i→c.Steps[i]?=some s→g i=true→i + 1<c.Steps.length→P (i + 1)):∀ (d i:Nat),c.Steps.length - i≤d→i<c.Steps.length→P i→∃ j s,P j∧c.Steps[j]?=some s∧g j=false∧j6 g j=j6 g i
  | 0,i,hd,hi,_=>by omega
  | d + 1,i,hd,hi,hp=>by
    have hs:c.Steps[i]?=some c.Steps[i]:=List.getElem?_eq_getElem hi
    by_cases e:g i=true
    · have e7:=hg i _ hs e
      have hn:=h.not_last hs (by omega) (by omega)
      obtain ⟨j,s,h1,h2,h3,h4⟩:=A5 h hg P hP d (i + 1) (by omega) hn (hP i _ hp hs e hn)
      have h5:j6 g (i + 1)=j6 g i + (if g i=true then 0 else 1):=rfl
      rw [if_pos e] at h5
      exact ⟨j,s,h1,h2,h3,by omega⟩
    · exact ⟨i,_,hp,hs,by simpa using e,rfl⟩
theorem Db {c:ax} (h:cg c) {g:Nat→Bool} (hg:A4 g c.Steps) {t:Nat} (ht:t<c.Steps.length):j6 g t<j6 g c.Steps.length:=by
  obtain ⟨z,h1,h2⟩:=h.last
  have h4:=h.len.1
  have h3:j6 g (c.Steps.length - 1 + 1)=j6 g (c.Steps.length - 1) + (if g (c.Steps.length - 1)=true then 0 else 1):=rfl
  rw [show c.Steps.length - 1 + 1=c.Steps.length by omega,if_neg (fun e=>by have:=hg _ z h1 e; omega)] at h3
  have:=A2 (g:=g) (show t≤c.Steps.length - 1 by omega)
  omega
/-- Where a way of the new code is, is one of the old. -/
theorem FX {c:ax} (h:cg c) {g:Nat→Bool} (hg:A4 g c.Steps) {r m:Nat} (hu:U (d7 g c.Steps) r m):∃ i,i<c.Steps.length∧U c.Steps r i∧j6 g i=m:=by
  induction hu with
  | zero=>exact ⟨0,h.len.1,.zero,rfl⟩
  | @step k m s' hu hs hw hsu ih =>
    obtain ⟨i0,hi0,hu0,hr0⟩:=ih
    obtain ⟨i,s,hui,hsi,hnf,hri⟩:=A5 h hg (fun i=>U c.Steps r i) (fun i s hu hs hgi hn=>.step hu hs (by unfold Bb Ba; rw [hg i s hs hgi]; rfl) ⟨s,hs,hn,.inl ⟨by rw [hg i s hs hgi]; decide,by rw [hg i s hs hgi]; decide,rfl⟩⟩) _ i0 (Nat.le_refl _) hi0 hu0
    have hb:=rz hsi hnf
    rw [hri,hr0,hs] at hb
    cases hb
    rw [FQ] at hw
    obtain ⟨hml,hcase⟩:=(zp hs).1 hsu
    rw [m9] at hcase
    rcases hcase with ⟨h8,h10,rfl⟩ | ⟨hj,hto⟩
    · have hn:=h.not_last hsi h8 h10
      have h5:j6 g (i + 1)=j6 g i + (if g i=true then 0 else 1):=rfl
      rw [hnf] at h5
      exact ⟨i + 1,hn,.step hui hsi hw ⟨s,hsi,hn,.inl ⟨h8,h10,rfl⟩⟩,by rw [h5,hri,hr0]; rfl⟩
    · rw [yl _ hj] at hto
      obtain ⟨h0,hlt⟩:=h.to hsi hj
      exact ⟨s.To.toNat,hlt,.step hui hsi hw ⟨s,hsi,hlt,.inr ⟨hj,by omega⟩⟩,by omega⟩
theorem qo {c:ax} (h:cg c) {g:Nat→Bool} (hg:A4 g c.Steps):cg (ax.mk c.Regs (d7 g c.Steps)):=by
  have hl:=Db h hg (t:=0) (by have:=h.len; omega)
  have hle:=zx g c.Steps.length
  have h4:=h.len
  refine ⟨h.regs,⟨?_,?_⟩,fun k s hs=>?_,?_,fun k s hs r hr hrd hu=>?_⟩
  · show 1≤(d7 g c.Steps).length
    rw [l4]
    omega
  · show (d7 g c.Steps).length≤4096
    rw [l4]
    omega
  · have hs:(d7 g c.Steps)[k]?=some s:=hs
    unfold d7 at hs
    rw [List.getElem?_map,Option.map_eq_some_iff] at hs
    obtain ⟨s0,h1,rfl⟩:=hs
    obtain ⟨i,h2,_⟩:=sN (List.mem_of_getElem? h1)
    exact FR (h.ok i s0 h2) (fun t ht=>by show _<(d7 g c.Steps).length; rw [l4]; exact Db h hg ht)
  · obtain ⟨z,h1,h2⟩:=h.last
    have hz:g (c.Steps.length - 1)=false:=by
      cases e:g (c.Steps.length - 1) with
      | false=>rfl
      | true=>have:=hg _ z h1 e; omega
    have hb:=rz h1 hz
    have h3:j6 g (c.Steps.length - 1 + 1)=j6 g (c.Steps.length - 1) + (if g (c.Steps.length - 1)=true then 0 else 1):=rfl
    rw [show c.Steps.length - 1 + 1=c.Steps.length by omega,hz] at h3
    have h3:j6 g c.Steps.length=j6 g (c.Steps.length - 1) + 1:=h3
    refine ⟨mv (j6 g) z,?_,by rw [m9]; exact h2⟩
    show (d7 g c.Steps)[(d7 g c.Steps).length - 1]?=_
    rw [l4,h3,Nat.add_sub_cancel]
    exact hb
  · obtain ⟨i0,hi0,hu0,hr0⟩:=FX h hg hu
    obtain ⟨i,s0,hui,hsi,hnf,hri⟩:=A5 h hg (fun i=>U c.Steps r i) (fun i s hu hs hgi hn=>.step hu hs (by unfold Bb Ba; rw [hg i s hs hgi]; rfl) ⟨s,hs,hn,.inl ⟨by rw [hg i s hs hgi]; decide,by rw [hg i s hs hgi]; decide,rfl⟩⟩) _ i0 (Nat.le_refl _) hi0 hu0
    have hb:=rz hsi hnf
    rw [hri,hr0] at hb
    have hs:(d7 g c.Steps)[k]?=some s:=hs
    rw [hs] at hb
    cases hb
    rw [C5] at hrd
    exact h.nb i s0 hsi r hr hrd hui
/-- The one step i. -/
def only (i:Nat):Nat→Bool:=fun k=>k==i
theorem zy {l:List ab} {i:Nat} {s:ab} (hs:l[i]?=some s) (h7:s.Op=7):A4 (only i) l:=fun k t ht hk=>by
  have:k=i:=by simpa [only] using hk
  subst this
  rw [hs] at ht
  cases ht
  exact h7
/-- Without a fence as with a jump in its place. -/
theorem FY {c:ax} (h:cg c) {i:Nat} {s:ab} (hs:c.Steps[i]?=some s) (h7:s.Op=7) (hf:sM (c.Steps.set i (pG (i + 1)))):sM (d7 (only i) c.Steps):=by
  have hg:=zy hs h7
  have hiN:=(List.getElem?_eq_some_iff.1 hs).1
  have hn:=h.not_last hs (by omega) (by omega)
  have dat:∀ q,(c.Steps.set i (pG (i + 1)))[q]?=if i=q then some (pG (i + 1)) else c.Steps[q]?:=fun q=>bu hiN
  have hdl:(c.Steps.set i (pG (i + 1))).length=c.Steps.length:=List.length_set
  have pass:∀ o,∀ (q:Nat) (t:ab),D (c.Steps.set i (pG (i + 1))) q o→c.Steps[q]?=some t→only i q=true→q + 1<c.Steps.length→D (c.Steps.set i (pG (i + 1))) (q + 1) o:=fun o q t hd _ hq _=>by
    have e:q=i:=by simpa [only] using hq
    subst e
    have hj:(c.Steps.set q (pG (q + 1)))[q]?=some (pG (q + 1)):=by rw [dat,if_pos rfl]
    have:=D.step hd hj (i:=q + 1) ⟨_,hj,by rw [hdl]; exact hn,.inr ⟨.inl rfl,rfl⟩⟩
    have e:out o (pG (q + 1))=o:=by cases o <;> rfl
    rw [e] at this
    exact this
  have way:∀ m o,D (d7 (only i) c.Steps) m o→∃ j,j<c.Steps.length∧D (c.Steps.set i (pG (i + 1))) j o∧j6 (only i) j=m:=fun m o hd=>by
    induction hd with
    | zero=>exact ⟨0,h.len.1,.zero,rfl⟩
    | @step k m o s' hd hs' hsu ih =>
      obtain ⟨i0,hi0,hu0,hr0⟩:=ih
      obtain ⟨j,t,huj,hsj,hnj,hrj⟩:=A5 h hg (fun q=>D (c.Steps.set i (pG (i + 1))) q o) (pass o) _ i0 (Nat.le_refl _) hi0 hu0
      have hb:=rz hsj hnj
      rw [hrj,hr0,hs'] at hb
      cases hb
      rw [Cg]
      have hji:i≠j:=fun e=>by
        subst e
        simp [only] at hnj
      have hdj:(c.Steps.set i (pG (i + 1)))[j]?=some t:=by rw [dat,if_neg hji]; exact hsj
      obtain ⟨hml,hcase⟩:=(zp hs').1 hsu
      rw [m9] at hcase
      rcases hcase with ⟨h8,h10,rfl⟩ | ⟨hj,hto⟩
      · have hn:=h.not_last hsj h8 h10
        have h5:j6 (only i) (j + 1)=j6 (only i) j + (if only i j=true then 0 else 1):=rfl
        rw [hnj] at h5
        exact ⟨j + 1,hn,.step huj hdj ⟨t,hdj,by rw [hdl]; exact hn,.inl ⟨h8,h10,rfl⟩⟩,by rw [h5,hrj,hr0]; rfl⟩
      · rw [yl _ hj] at hto
        obtain ⟨h0,hlt⟩:=h.to hsj hj
        exact ⟨t.To.toNat,hlt,.step huj hdj ⟨t,hdj,by rw [hdl]; exact hlt,.inr ⟨hj,by omega⟩⟩,by omega⟩
  intro m s' hs' hsh hd
  obtain ⟨i0,hi0,hu0,hr0⟩:=way m true hd
  obtain ⟨j,t,huj,hsj,hnj,hrj⟩:=A5 h hg (fun q=>D (c.Steps.set i (pG (i + 1))) q true) (pass true) _ i0 (Nat.le_refl _) hi0 hu0
  have hb:=rz hsj hnj
  rw [hrj,hr0,hs'] at hb
  cases hb
  rw [C4] at hsh
  have hji:i≠j:=fun e=>by
    subst e
    simp [only] at hnj
  exact hf j t (by rw [dat,if_neg hji]; exact hsj) hsh huj
theorem A6 (i:Nat):∀ n,j6 (only i) n + (if i<n then 1 else 0)=n
  | 0=>rfl
  | n + 1=>by
    have:=A6 i n
    have h5:j6 (only i) (n + 1)=j6 (only i) n + (if only i n=true then 0 else 1):=rfl
    rw [h5]
    by_cases e:n=i
    · subst e
      rw [if_pos (show only n n=true by simp [only]),if_pos (by omega)]
      rw [if_neg (by omega)] at this
      omega
    · rw [if_neg (show ¬ only i n=true by simpa [only] using e)]
      by_cases e2:i<n
      · rw [if_pos e2] at this
        rw [if_pos (by omega)]
        omega
      · rw [if_neg e2] at this
        rw [if_neg (by omega)]
        omega

end Go.Proofs.Ytaiokpalfdbnnaa
