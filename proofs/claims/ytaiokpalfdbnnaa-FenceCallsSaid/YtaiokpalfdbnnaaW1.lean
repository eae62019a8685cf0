/- Fenced: no way comes to a shared step that is open; taking away single fences -/
import Derived.Test.YtaiokpalfdbnnaaC5
namespace Go.Proofs.Ytaiokpalfdbnnaa
open Go A

def u9 (l:List ab):Prop:=∀ (k:Nat) (s:ab),l[k]?=some s→zn s=true→¬ D l k true
/-! ### Some steps away -/
def j5 (g:Nat→Bool):Nat→Nat
  | 0=>0
  | i + 1=>j5 g i + (if g i=true then 0 else 1)
def fL (g:Nat→Bool) (l:List ab):Nat→List ab
  | 0=>[]
  | i + 1=>fL g l i++(match l[i]? with
    | some s=>if g i=true then [] else [s]
    | none=>[])
def c5 (g:Nat→Bool) (l:List ab):List ab:=(fL g l l.length).map (mv (j5 g))
theorem ga {g:Nat→Bool} {l:List ab} {i:Nat} {s:ab} (h:l[i]?=some s):fL g l (i + 1)=fL g l i++(if g i=true then [] else [s]):=by
  show fL g l i++_=_
  rw [h]
theorem pX {g:Nat→Bool} {l:List ab}:∀ {i:Nat},i≤l.length→(fL g l i).length=j5 g i
  | 0,_=>rfl
  | i + 1,h=>by
    have hs:l[i]?=some (l[i]'(by omega)):=List.getElem?_eq_getElem (by omega)
    rw [ga hs,List.length_append,pX (by omega)]
    show _=j5 g i + _
    split <;> rfl
theorem B1 {g:Nat→Bool}:∀ {i j:Nat},i≤j→j5 g i≤j5 g j
  | i,0,h=>by rw [show i=0 by omega]; exact Nat.le_refl _
  | i,j + 1,h=>by
    by_cases e:i=j + 1
    · rw [e]; exact Nat.le_refl _
    · have:=B1 (g:=g) (show i≤j by omega)
      show _≤j5 g j + _
      omega
theorem As (g:Nat→Bool):∀ i,j5 g i≤i
  | 0=>Nat.le_refl _
  | i + 1=>by
    have:=As g i
    show j5 g i + _≤i + 1
    split <;> omega
theorem B2 {g:Nat→Bool} {l:List ab}:∀ {n:Nat},n≤l.length→∀ {i:Nat} {s:ab},i<n→l[i]?=some s→g i=false→(fL g l n)[j5 g i]?=some s
  | n + 1,hn,i,s,hi,hs,hg=>by
    have hsn:l[n]?=some (l[n]'(by omega)):=List.getElem?_eq_getElem (by omega)
    have hlen:=pX (g:=g) (l:=l) (i:=n) (by omega)
    rw [ga hsn]
    by_cases e:i=n
    · subst e
      rw [hsn] at hs
      cases hs
      rw [List.getElem?_append_right (by omega),hlen,Nat.sub_self,hg]
      rfl
    · have h1:=B2 (n:=n) (by omega) (show i<n by omega) hs hg
      have h2:=(List.getElem?_eq_some_iff.1 h1).1
      rw [List.getElem?_append_left h2]
      exact h1
theorem tV {g:Nat→Bool} {l:List ab}:∀ {n:Nat} {s:ab},s∈fL g l n→∃ i,l[i]?=some s∧g i=false
  | n + 1,s,h=>by
    have h:s∈fL g l n++_:=h
    rcases List.mem_append.1 h with h | h
    · exact tV h
    · cases hs:l[n]? with
      | none=>rw [hs] at h; cases h
      | some t =>
        rw [hs] at h
        dsimp only at h
        split at h
        · cases h
        · rename_i e
          rw [List.mem_singleton.1 h]
          exact ⟨n,hs,by simpa using e⟩
theorem m1 (g:Nat→Bool) (l:List ab):(c5 g l).length=j5 g l.length:=by
  unfold c5
  rw [List.length_map,pX (Nat.le_refl _)]
theorem Au {g:Nat→Bool} {l:List ab} {i:Nat} {s:ab} (hs:l[i]?=some s) (hg:g i=false):(c5 g l)[j5 g i]?=some (mv (j5 g) s):=by
  unfold c5
  rw [List.getElem?_map,B2 (Nat.le_refl _) (List.getElem?_eq_some_iff.1 hs).1 hs hg]
  rfl
/-- Only fences are br. -/
def B3 (g:Nat→Bool) (l:List ab):Prop:=∀ (i:Nat) (s:ab),l[i]?=some s→g i=true→s.Op=7
theorem G6 {c:aj} (h:aK c) {g:Nat→Bool} (hg:B3 g c.Steps) (P:Nat→Prop) (hP:∀ i s,P i→c.Steps[i]?=some s→g i=true→i + 1<c.Steps.length→P (i + 1)):∀ (d i:Nat),c.Steps.length - i≤d→i<c.Steps.length→P i→∃ j s,P j∧c.Steps[j]?=some s∧g j=false∧j5 g j=j5 g i
  | 0,i,hd,hi,_=>by omega
  | d + 1,i,hd,hi,hp=>by
    have hs:c.Steps[i]?=some c.Steps[i]:=List.getElem?_eq_getElem hi
    by_cases e:g i=true
    · have e7:=hg i _ hs e
      have hn:=h.not_last hs (by omega) (by omega)
      obtain ⟨j,s,h1,h2,h3,h4⟩:=G6 h hg P hP d (i + 1) (by omega) hn (hP i _ hp hs e hn)
      have h5:j5 g (i + 1)=j5 g i + (if g i=true then 0 else 1):=rfl
      rw [if_pos e] at h5
      exact ⟨j,s,h1,h2,h3,by omega⟩
    · exact ⟨i,_,hp,hs,by simpa using e,rfl⟩
theorem Eg {c:aj} (h:aK c) {g:Nat→Bool} (hg:B3 g c.Steps) {t:Nat} (ht:t<c.Steps.length):j5 g t<j5 g c.Steps.length:=by
  obtain ⟨z,h1,h2⟩:=h.last
  have h4:=h.len.1
  have h3:j5 g (c.Steps.length - 1 + 1)=j5 g (c.Steps.length - 1) + (if g (c.Steps.length - 1)=true then 0 else 1):=rfl
  rw [show c.Steps.length - 1 + 1=c.Steps.length by omega,if_neg (fun e=>by have:=hg _ z h1 e; omega)] at h3
  have:=B1 (g:=g) (show t≤c.Steps.length - 1 by omega)
  omega
/-- Where a way of the new code is, is one of the old. -/
theorem G7 {c:aj} (h:aK c) {g:Nat→Bool} (hg:B3 g c.Steps) {r m:Nat} (hu:U (c5 g c.Steps) r m):∃ i,i<c.Steps.length∧U c.Steps r i∧j5 g i=m:=by
  induction hu with
  | zero=>exact ⟨0,h.len.1,.zero,rfl⟩
  | @step k m s' hu hs hw hsu ih =>
    obtain ⟨i0,hi0,hu0,hr0⟩:=ih
    obtain ⟨i,s,hui,hsi,hnf,hri⟩:=G6 h hg (fun i=>U c.Steps r i) (fun i s hu hs hgi hn=>.step hu hs (by unfold B_ B9; rw [hg i s hs hgi]; rfl) ⟨s,hs,hn,.inl ⟨by rw [hg i s hs hgi]; decide,by rw [hg i s hs hgi]; decide,rfl⟩⟩) _ i0 (Nat.le_refl _) hi0 hu0
    have hb:=Au hsi hnf
    rw [hri,hr0,hs] at hb
    cases hb
    rw [GW] at hw
    obtain ⟨hml,hcase⟩:=(GG hs).1 hsu
    rw [uL] at hcase
    rcases hcase with ⟨h8,h10,rfl⟩ | ⟨hj,hto⟩
    · have hn:=h.not_last hsi h8 h10
      have h5:j5 g (i + 1)=j5 g i + (if g i=true then 0 else 1):=rfl
      rw [hnf] at h5
      exact ⟨i + 1,hn,.step hui hsi hw ⟨s,hsi,hn,.inl ⟨h8,h10,rfl⟩⟩,by rw [h5,hri,hr0]; rfl⟩
    · rw [GX _ hj] at hto
      obtain ⟨h0,hlt⟩:=h.to hsi hj
      exact ⟨s.To.toNat,hlt,.step hui hsi hw ⟨s,hsi,hlt,.inr ⟨hj,by omega⟩⟩,by omega⟩
theorem nM {c:aj} (h:aK c) {g:Nat→Bool} (hg:B3 g c.Steps):aK (aj.mk c.Regs (c5 g c.Steps)):=by
  have hl:=Eg h hg (t:=0) (by have:=h.len; omega)
  have hle:=As g c.Steps.length
  have h4:=h.len
  refine ⟨h.regs,⟨?_,?_⟩,fun k s hs=>?_,?_,fun k s hs r hr hrd hu=>?_⟩
  · show 1≤(c5 g c.Steps).length
    rw [m1]
    omega
  · show (c5 g c.Steps).length≤4096
    rw [m1]
    omega
  · have hs:(c5 g c.Steps)[k]?=some s:=hs
    unfold c5 at hs
    rw [List.getElem?_map,Option.map_eq_some_iff] at hs
    obtain ⟨s0,h1,rfl⟩:=hs
    obtain ⟨i,h2,_⟩:=tV (List.mem_of_getElem? h1)
    exact GY (h.ok i s0 h2) (fun t ht=>by show _<(c5 g c.Steps).length; rw [m1]; exact Eg h hg ht)
  · obtain ⟨z,h1,h2⟩:=h.last
    have hz:g (c.Steps.length - 1)=false:=by
      cases e:g (c.Steps.length - 1) with
      | false=>rfl
      | true=>have:=hg _ z h1 e; omega
    have hb:=Au h1 hz
    have h3:j5 g (c.Steps.length - 1 + 1)=j5 g (c.Steps.length - 1) + (if g (c.Steps.length - 1)=true then 0 else 1):=rfl
    rw [show c.Steps.length - 1 + 1=c.Steps.length by omega,hz] at h3
    have h3:j5 g c.Steps.length=j5 g (c.Steps.length - 1) + 1:=h3
    refine ⟨mv (j5 g) z,?_,by rw [uL]; exact h2⟩
    show (c5 g c.Steps)[(c5 g c.Steps).length - 1]?=_
    rw [m1,h3,Nat.add_sub_cancel]
    exact hb
  · obtain ⟨i0,hi0,hu0,hr0⟩:=G7 h hg hu
    obtain ⟨i,s0,hui,hsi,hnf,hri⟩:=G6 h hg (fun i=>U c.Steps r i) (fun i s hu hs hgi hn=>.step hu hs (by unfold B_ B9; rw [hg i s hs hgi]; rfl) ⟨s,hs,hn,.inl ⟨by rw [hg i s hs hgi]; decide,by rw [hg i s hs hgi]; decide,rfl⟩⟩) _ i0 (Nat.le_refl _) hi0 hu0
    have hb:=Au hsi hnf
    rw [hri,hr0] at hb
    have hs:(c5 g c.Steps)[k]?=some s:=hs
    rw [hs] at hb
    cases hb
    rw [Eb] at hrd
    exact h.nb i s0 hsi r hr hrd hui
/-- The one step i. -/
def only (i:Nat):Nat→Bool:=fun k=>k==i
theorem Av {l:List ab} {i:Nat} {s:ab} (hs:l[i]?=some s) (h7:s.Op=7):B3 (only i) l:=fun k t ht hk=>by
  have:k=i:=by simpa [only] using hk
  subst this
  rw [hs] at ht
  cases ht
  exact h7
theorem B4 (i:Nat):∀ n,j5 (only i) n + (if i<n then 1 else 0)=n
  | 0=>rfl
  | n + 1=>by
    have:=B4 i n
    have h5:j5 (only i) (n + 1)=j5 (only i) n + (if only i n=true then 0 else 1):=rfl
    rw [h5]
    by_cases e:n=i
    · subst e
      rw [if_pos (show only n n=true by simp [only]),if_pos (by omega)]
      rw [if_neg (by omega)] at this
      omega
    · rw [if_neg (show ¬ only i n=true by simpa [only] using e)]
      by_cases e2:i<n
      · rw [if_pos e2] at this
        rw [if_pos (by omega)]
        omega
      · rw [if_neg e2] at this
        rw [if_neg (by omega)]
        omega

end Go.Proofs.Ytaiokpalfdbnnaa
