/- Steps taken away, steps put in -/
import Derived.Test.YtaiokpalfdbnnaaB8
namespace Go.Proofs.Ytaiokpalfdbnnaa
open Go A

def nf (s:ab):Bool:=s.Op != 7
/-- Where a jump goes to now. -/
def mv (f:Nat→Nat) (s:ab):ab:=if hJ s.Op=true then ab.mk s.Op s.A_ s.B s.C_ s.D s.Imm s.Bin ((f s.To.toNat:Nat):Int) s.Shared else s
theorem ko {op:Int}:hJ op=true↔op=8∨op=9:=by
  unfold hJ
  simp
theorem uL (f:Nat→Nat) (s:ab):(mv f s).Op=s.Op:=by unfold mv; split <;> rfl
theorem Mu (f:Nat→Nat) (s:ab):(mv f s).A_=s.A_:=by unfold mv; split <;> rfl
theorem Kr (f:Nat→Nat) (s:ab):nf (mv f s)=nf s:=by unfold nf; rw [uL]
theorem Eb (f:Nat→Nat) (s:ab):i9 (mv f s)=i9 s:=by unfold mv; split <;> rfl
theorem GW (f:Nat→Nat) (s:ab) (r:Nat):B_ (mv f s) r=B_ s r:=by unfold B_; rw [uL,Mu]
theorem GX (f:Nat→Nat) {s:ab} (h:s.Op=8∨s.Op=9):(mv f s).To=((f s.To.toNat:Nat):Int):=by
  unfold mv
  rw [if_pos (ko.2 h)]
theorem GY {f:Nat→Nat} {s:ab} {R:Int} {N M:Nat} (h:Ok s R N) (hf:∀ t,t<N→f t<M):Ok (mv f s) R M:=by
  have ht:=h.t
  unfold rg at ht
  unfold mv
  split
  · rename_i e
    rw [if_pos e] at ht
    have:=hf s.To.toNat (by omega)
    refine ⟨h.op,h.a,h.b,h.c,h.d,h.i,h.n,?_,h.s⟩
    show rg (hJ s.Op) ((f s.To.toNat:Nat):Int) (M:Int)
    unfold rg
    rw [if_pos e]
    omega
  · rename_i e
    rw [if_neg e] at ht
    refine ⟨h.op,h.a,h.b,h.c,h.d,h.i,h.n,?_,h.s⟩
    unfold rg
    rw [if_neg e]
    exact ht
/-- No step but a jump goes on without the next one, and the last is none. -/
theorem aK.not_last {c:aj} (h:aK c) {k:Nat} {s:ab} (hs:c.Steps[k]?=some s) (h8:s.Op≠8) (h10:s.Op≠10):k + 1<c.Steps.length:=by
  have hk:=(List.getElem?_eq_some_iff.1 hs).1
  by_cases e:k=c.Steps.length - 1
  · obtain ⟨z,h1,h2⟩:=h.last
    rw [← e,hs] at h1
    cases h1
    rcases h2 with h2 | h2
    · exact (h8 h2).elim
    · exact (h10 h2).elim
  · omega
theorem aK.to {c:aj} (h:aK c) {k:Nat} {s:ab} (hs:c.Steps[k]?=some s) (hj:s.Op=8∨s.Op=9):0≤s.To∧s.To.toNat<c.Steps.length:=by
  have ht:=(h.ok k s hs).t
  unfold rg at ht
  rw [if_pos (ko.2 hj)] at ht
  omega

/-! ### Fences away -/
def rk (l:List ab) (i:Nat):Nat:=(l.take i).countP nf
def aI (l:List ab):List ab:=(l.filter nf).map (mv (rk l))
theorem nL {l:List ab} {i:Nat} {s:ab} (h:l[i]?=some s):rk l (i + 1)=rk l i + (if nf s=true then 1 else 0):=by
  obtain ⟨hi,e⟩:=List.getElem?_eq_some_iff.1 h
  unfold rk
  rw [List.take_succ_eq_append_getElem hi,List.countP_append,e]
  simp [List.countP_cons]
theorem Ju (l:List ab):rk l l.length=(l.filter nf).length:=by
  unfold rk
  rw [List.take_length,List.countP_eq_length_filter]
theorem HY (l:List ab) {i j:Nat} (h:i≤j):rk l i≤rk l j:=by
  unfold rk
  rw [show l.take i=(l.take j).take i by rw [List.take_take,Nat.min_eq_left h]]
  exact List.Sublist.countP_le (List.take_sublist _ _)
theorem Fs {l:List ab} {i:Nat} {s:ab} (h:l[i]?=some s) (hs:nf s=true):(l.filter nf)[rk l i]?=some s:=by
  obtain ⟨hi,e⟩:=List.getElem?_eq_some_iff.1 h
  have h1:l=l.take i++s::l.drop (i + 1):=by
    rw [← e]
    simp
  have h2:l.filter nf=(l.take i).filter nf++s::(l.drop (i + 1)).filter nf:=by
    conv=>lhs; rw [h1]
    rw [List.filter_append,List.filter_cons,if_pos hs]
  rw [h2]
  unfold rk
  rw [List.countP_eq_length_filter,List.getElem?_append_right (Nat.le_refl _),Nat.sub_self]
  rfl
theorem Ap {l:List ab} {i:Nat} {s:ab} (h:l[i]?=some s) (hs:nf s=true):(aI l)[rk l i]?=some (mv (rk l) s):=by
  unfold aI
  rw [List.getElem?_map,Fs h hs]
  rfl
theorem xy {s:ab}:nf s=true↔s.Op≠7:=by
  unfold nf
  simp
/-- Past fences to what is none. -/
theorem past {c:aj} (h:aK c) (P:Nat→Prop) (hP:∀ i s,P i→c.Steps[i]?=some s→s.Op=7→P (i + 1)):∀ (d i:Nat),c.Steps.length - i≤d→i<c.Steps.length→P i→∃ j s,P j∧c.Steps[j]?=some s∧nf s=true∧rk c.Steps j=rk c.Steps i
  | 0,i,hd,hi,_=>by omega
  | d + 1,i,hd,hi,hp=>by
    have hs:c.Steps[i]?=some c.Steps[i]:=List.getElem?_eq_getElem hi
    by_cases e:nf c.Steps[i]=true
    · exact ⟨i,_,hp,hs,e,rfl⟩
    · have e7:c.Steps[i].Op=7:=by
        by_cases x:c.Steps[i].Op=7
        · exact x
        · exact (e (xy.2 x)).elim
      have hn:=h.not_last hs (by omega) (by omega)
      obtain ⟨j,s,h1,h2,h3,h4⟩:=past h P hP d (i + 1) (by omega) hn (hP i _ hp hs e7)
      exact ⟨j,s,h1,h2,h3,by rw [h4,nL hs,if_neg e,Nat.add_zero]⟩
theorem sG (l:List ab):(aI l).length=rk l l.length:=by
  unfold aI
  rw [List.length_map,Ju]
theorem Ec {c:aj} (h:aK c) {t:Nat} (ht:t<c.Steps.length):rk c.Steps t<rk c.Steps c.Steps.length:=by
  obtain ⟨z,h1,h2⟩:=h.last
  have h3:rk c.Steps (c.Steps.length - 1 + 1)=_:=nL h1
  have h4:=h.len.1
  rw [show c.Steps.length - 1 + 1=c.Steps.length by omega,if_pos (xy.2 (by omega))] at h3
  have:=HY c.Steps (show t≤c.Steps.length - 1 by omega)
  omega
theorem GZ {c:aj} (h:aK c) {r m:Nat} (hu:U (aI c.Steps) r m):∃ i,i<c.Steps.length∧U c.Steps r i∧rk c.Steps i=m:=by
  induction hu with
  | zero=>exact ⟨0,h.len.1,.zero,by unfold rk; simp⟩
  | @step k m s' hu hs hw hsu ih =>
    obtain ⟨i0,hi0,hu0,hr0⟩:=ih
    obtain ⟨i,s,hui,hsi,hnf,hri⟩:=past h (fun i=>U c.Steps r i) (fun i s hu hs h7=>.step hu hs (by unfold B_ B9; rw [h7]; rfl) ⟨s,hs,by have:=h.not_last hs (by omega) (by omega); omega,.inl ⟨by omega,by omega,rfl⟩⟩) _ i0 (Nat.le_refl _) hi0 hu0
    have hb:=Ap hsi hnf
    rw [hri,hr0,hs] at hb
    cases hb
    rw [GW] at hw
    obtain ⟨t,ht,hml,hcase⟩:=hsu
    rw [hs] at ht
    cases ht
    rw [uL] at hcase
    rcases hcase with ⟨h8,h10,rfl⟩ | ⟨hj,hto⟩
    · have hn:=h.not_last hsi h8 h10
      exact ⟨i + 1,hn,.step hui hsi hw ⟨s,hsi,hn,.inl ⟨h8,h10,rfl⟩⟩,by rw [nL hsi,if_pos hnf]; omega⟩
    · rw [GX _ hj] at hto
      obtain ⟨h0,hlt⟩:=h.to hsi hj
      exact ⟨s.To.toNat,hlt,.step hui hsi hw ⟨s,hsi,hlt,.inr ⟨hj,by omega⟩⟩,by omega⟩
theorem G0 {c:aj} {k:Nat} {s:ab} (h:(aI c.Steps)[k]?=some s):∃ (i:Nat) (s0:ab),c.Steps[i]?=some s0∧nf s0=true∧s=mv (rk c.Steps) s0:=by
  unfold aI at h
  rw [List.getElem?_map,Option.map_eq_some_iff] at h
  obtain ⟨s0,h1,rfl⟩:=h
  obtain ⟨h2,h3⟩:=List.mem_filter.1 (List.mem_of_getElem? h1)
  obtain ⟨i,h4⟩:=List.getElem?_of_mem h2
  exact ⟨i,s0,h4,h3,rfl⟩
theorem lI {c:aj} (h:aK c):aK (aj.mk c.Regs (aI c.Steps)):=by
  have hl:=Ec h (t:=0) (by have:=h.len; omega)
  have hle:rk c.Steps c.Steps.length≤c.Steps.length:=by
    unfold rk
    have:=List.countP_le_length (p:=nf) (l:=c.Steps.take c.Steps.length)
    rw [List.length_take] at this
    omega
  refine ⟨h.regs,⟨?_,?_⟩,fun k s hs=>?_,?_,fun k s hs r hr hrd hu=>?_⟩
  · show 1≤(aI c.Steps).length
    rw [sG]
    omega
  · show (aI c.Steps).length≤4096
    rw [sG]
    have:=h.len
    omega
  · obtain ⟨i,s0,h1,h2,rfl⟩:=G0 hs
    exact GY (h.ok i s0 h1) (fun t ht=>by show _<(aI c.Steps).length; rw [sG]; exact Ec h ht)
  · obtain ⟨z,h1,h2⟩:=h.last
    have hb:=Ap h1 (xy.2 (by omega))
    have h3:rk c.Steps (c.Steps.length - 1 + 1)=_:=nL h1
    have h4:=h.len.1
    rw [show c.Steps.length - 1 + 1=c.Steps.length by omega,if_pos (xy.2 (by omega))] at h3
    refine ⟨mv (rk c.Steps) z,?_,by rw [uL]; exact h2⟩
    show (aI c.Steps)[(aI c.Steps).length - 1]?=_
    rw [sG,h3,Nat.add_sub_cancel]
    exact hb
  · obtain ⟨i0,hi0,hu0,hr0⟩:=GZ h hu
    obtain ⟨i,s0,hui,hsi,hnf,hri⟩:=past h (fun i=>U c.Steps r i) (fun i s hu hs h7=>.step hu hs (by unfold B_ B9; rw [h7]; rfl) ⟨s,hs,by have:=h.not_last hs (by omega) (by omega); omega,.inl ⟨by omega,by omega,rfl⟩⟩) _ i0 (Nat.le_refl _) hi0 hu0
    have hb:=Ap hsi hnf
    rw [hri,hr0] at hb
    have hs:(aI c.Steps)[k]?=some s:=hs
    rw [hs] at hb
    cases hb
    rw [Eb] at hrd
    exact h.nb i s0 hsi r hr hrd hui

/-! ### Fences put in -/
def jB:ab:=ab.mk 7 0 0 0 0 0 0 0 false
def ps (p:Nat→Bool):Nat→Nat
  | 0=>0
  | i + 1=>ps p i + (if p i=true then 2 else 1)
def j4 (p:Nat→Bool) (l:List ab):Nat→List ab
  | 0=>[]
  | i + 1=>j4 p l i++(match l[i]? with
    | some s=>if p i=true then [jB,s] else [s]
    | none=>[])
def oc (p:Nat→Bool) (l:List ab):List ab:=(j4 p l l.length).map (mv (ps p))
theorem pV {p:Nat→Bool} {l:List ab} {i:Nat} {s:ab} (h:l[i]?=some s):j4 p l (i + 1)=j4 p l i++(if p i=true then [jB,s] else [s]):=by
  show j4 p l i++_=_
  rw [h]
theorem py {p:Nat→Bool} {l:List ab}:∀ {i:Nat},i≤l.length→(j4 p l i).length=ps p i
  | 0,_=>rfl
  | i + 1,h=>by
    have hs:l[i]?=some (l[i]'(by omega)):=List.getElem?_eq_getElem (by omega)
    rw [pV hs,List.length_append,py (by omega)]
    show _=ps p i + _
    split <;> rfl
theorem zq {p:Nat→Bool}:∀ {i j:Nat},i<j→ps p i<ps p j
  | i,j + 1,h=>by
    have h1:ps p (j + 1)=ps p j + (if p j=true then 2 else 1):=rfl
    by_cases e:i=j
    · subst e
      rw [h1]
      split <;> omega
    · have:=zq (p:=p) (show i<j by omega)
      rw [h1]
      split <;> omega
theorem Ed {p:Nat→Bool} {l:List ab}:∀ {n:Nat},n≤l.length→∀ {i:Nat} {s:ab},i<n→l[i]?=some s→(j4 p l n)[ps p i]?=some (if p i=true then jB else s)∧(p i=true→(j4 p l n)[ps p i + 1]?=some s)
  | n + 1,hn,i,s,hi,hs=>by
    have hsn:l[n]?=some (l[n]'(by omega)):=List.getElem?_eq_getElem (by omega)
    have hlen:=py (p:=p) (l:=l) (i:=n) (by omega)
    rw [pV hsn]
    by_cases e:i=n
    · subst e
      rw [hsn] at hs
      cases hs
      rw [List.getElem?_append_right (by omega),List.getElem?_append_right (by omega),hlen,Nat.sub_self,show ps p i + 1 - ps p i=1 by omega]
      split
      · exact ⟨rfl,fun _=>rfl⟩
      · rename_i e
        exact ⟨rfl,fun h=>(e h).elim⟩
    · obtain ⟨h1,h2⟩:=Ed (n:=n) (by omega) (show i<n by omega) hs
      have hlt:=zq (p:=p) (show i<i + 1 by omega)
      have hlt2:i + 1≤n:=by omega
      have hle:ps p (i + 1)≤ps p n:=by
        rcases Nat.eq_or_lt_of_le hlt2 with e | e
        · rw [e]; exact Nat.le_refl _
        · exact Nat.le_of_lt (zq e)
      have h3:ps p (i + 1)=ps p i + (if p i=true then 2 else 1):=rfl
      refine ⟨by rw [List.getElem?_append_left (by omega)]; exact h1,fun hp=>?_⟩
      rw [if_pos hp] at h3
      rw [List.getElem?_append_left (by omega)]
      exact h2 hp
theorem G1 {p:Nat→Bool}:∀ {n m:Nat},m<ps p n→∃ i,i<n∧(m=ps p i∨(p i=true∧m=ps p i + 1))
  | 0,m,h=>by
    have:ps p 0=0:=rfl
    omega
  | n + 1,m,h=>by
    have h1:ps p (n + 1)=ps p n + (if p n=true then 2 else 1):=rfl
    by_cases e:m<ps p n
    · obtain ⟨i,h2,h3⟩:=G1 e
      exact ⟨i,by omega,h3⟩
    · refine ⟨n,by omega,?_⟩
      by_cases hp:p n=true
      · rw [if_pos hp] at h1
        by_cases e2:m=ps p n
        · exact .inl e2
        · exact .inr ⟨hp,by omega⟩
      · rw [if_neg hp] at h1
        exact .inl (by omega)
theorem pW (p:Nat→Bool) (l:List ab):(oc p l).length=ps p l.length:=by
  unfold oc
  rw [List.length_map,py (Nat.le_refl _)]
theorem Di {p:Nat→Bool} {l:List ab} {i:Nat} {s:ab} (hs:l[i]?=some s):(oc p l)[ps p i]?=some (if p i=true then jB else mv (ps p) s)∧(p i=true→(oc p l)[ps p i + 1]?=some (mv (ps p) s)):=by
  obtain ⟨h1,h2⟩:=Ed (p:=p) (Nat.le_refl _) (List.getElem?_eq_some_iff.1 hs).1 hs
  unfold oc
  rw [List.getElem?_map,List.getElem?_map,h1]
  refine ⟨?_,fun hp=>by rw [h2 hp]; rfl⟩
  split
  · rfl
  · rfl
theorem Ee {p:Nat→Bool} {i j:Nat} (h:i≤j):ps p i≤ps p j:=by
  rcases Nat.eq_or_lt_of_le h with e | e
  · rw [e]; exact Nat.le_refl _
  · exact Nat.le_of_lt (zq e)
/-- What stands at a place of the new code. -/
theorem Ef {p:Nat→Bool} {l:List ab} {m:Nat} {s':ab} (h:(oc p l)[m]?=some s'):∃ i s,l[i]?=some s∧((p i=true∧m=ps p i∧s'=jB)∨(m + 1=ps p (i + 1)∧s'=mv (ps p) s)):=by
  have hm:=(List.getElem?_eq_some_iff.1 h).1
  rw [pW] at hm
  obtain ⟨i,hi,hc⟩:=G1 hm
  have hs:l[i]?=some l[i]:=List.getElem?_eq_getElem hi
  obtain ⟨h1,h2⟩:=Di (p:=p) hs
  have h3:ps p (i + 1)=ps p i + (if p i=true then 2 else 1):=rfl
  refine ⟨i,_,hs,?_⟩
  rcases hc with rfl | ⟨hp,rfl⟩
  · rw [h] at h1
    by_cases hp:p i=true
    · rw [if_pos hp] at h1
      cases h1
      exact .inl ⟨hp,rfl,rfl⟩
    · rw [if_neg hp] at h1 h3
      cases h1
      exact .inr ⟨by omega,rfl⟩
  · have h2:=h2 hp
    rw [h] at h2
    rw [if_pos hp] at h3
    cases h2
    exact .inr ⟨by omega,rfl⟩
theorem HZ {c:aj} (h:aK c) {p:Nat→Bool} {r m:Nat} (hu:U (oc p c.Steps) r m):∃ i,i<c.Steps.length∧U c.Steps r i∧(m=ps p i∨(p i=true∧m=ps p i + 1)):=by
  induction hu with
  | zero=>exact ⟨0,h.len.1,.zero,.inl rfl⟩
  | @step k m s' hu hs hw hsu ih =>
    obtain ⟨i,hi,hui,hc⟩:=ih
    obtain ⟨j,s,hsj,hx⟩:=Ef hs
    have hjN:=(List.getElem?_eq_some_iff.1 hsj).1
    have h3:ps p (i + 1)=ps p i + (if p i=true then 2 else 1):=rfl
    have h3j:ps p (j + 1)=ps p j + (if p j=true then 2 else 1):=rfl
    have eij:i=j:=by
      have b1:ps p j≤k∧k<ps p (j + 1):=by
        rcases hx with ⟨hp,e,_⟩ | ⟨e,_⟩
        · rw [if_pos hp] at h3j; omega
        · split at h3j <;> omega
      have b2:ps p i≤k∧k<ps p (i + 1):=by
        rcases hc with e | ⟨hp,e⟩
        · split at h3 <;> omega
        · rw [if_pos hp] at h3; omega
      rcases Nat.lt_trichotomy i j with e | e | e
      · have:=Ee (p:=p) (show i + 1≤j by omega); omega
      · exact e
      · have:=Ee (p:=p) (show j + 1≤i by omega); omega
    subst eij
    obtain ⟨t,ht,hml,hcase⟩:=hsu
    rw [hs] at ht
    cases ht
    rcases hx with ⟨hp,rfl,rfl⟩ | ⟨e,rfl⟩
    · rcases hcase with ⟨_,_,rfl⟩ | ⟨hj,_⟩
      · exact ⟨i,hi,hui,.inr ⟨hp,rfl⟩⟩
      · rcases hj with hj | hj <;> cases hj
    · rw [GW] at hw
      rw [uL] at hcase
      rcases hcase with ⟨h8,h10,rfl⟩ | ⟨hj,hto⟩
      · have hn:=h.not_last hsj h8 h10
        exact ⟨i + 1,hn,.step hui hsj hw ⟨s,hsj,hn,.inl ⟨h8,h10,rfl⟩⟩,.inl e⟩
      · rw [GX _ hj] at hto
        obtain ⟨h0,hlt⟩:=h.to hsj hj
        exact ⟨s.To.toNat,hlt,.step hui hsj hw ⟨s,hsj,hlt,.inr ⟨hj,by omega⟩⟩,.inl (by omega)⟩
theorem Ft {c:aj} (h:aK c) (p:Nat→Bool) (hl:ps p c.Steps.length≤4096):aK (aj.mk c.Regs (oc p c.Steps)):=by
  have h0:=h.len.1
  have hpos:ps p 0<ps p c.Steps.length:=zq (by omega)
  refine ⟨h.regs,⟨?_,?_⟩,fun k s hs=>?_,?_,fun k s hs r hr hrd hu=>?_⟩
  · show 1≤(oc p c.Steps).length
    rw [pW]
    omega
  · show (oc p c.Steps).length≤4096
    rw [pW]
    exact hl
  · obtain ⟨i,s0,h1,h2⟩:=Ef hs
    rcases h2 with ⟨_,_,rfl⟩ | ⟨_,rfl⟩
    · refine ⟨by decide,?_,?_,?_,?_,by decide,by decide,?_,by decide⟩
      all_goals exact rfl
    · exact GY (h.ok i s0 h1) (fun t ht=>by show _<(oc p c.Steps).length; rw [pW]; exact zq ht)
  · obtain ⟨z,h1,h2⟩:=h.last
    obtain ⟨h3,h4⟩:=Di (p:=p) h1
    have h5:ps p (c.Steps.length - 1 + 1)=ps p (c.Steps.length - 1) + _:=rfl
    rw [show c.Steps.length - 1 + 1=c.Steps.length by omega] at h5
    refine ⟨mv (ps p) z,?_,by rw [uL]; exact h2⟩
    show (oc p c.Steps)[(oc p c.Steps).length - 1]?=_
    rw [pW,h5]
    by_cases hp:p (c.Steps.length - 1)=true
    · rw [if_pos hp,show ps p (c.Steps.length - 1) + 2 - 1=ps p (c.Steps.length - 1) + 1 by omega]
      exact h4 hp
    · rw [if_neg hp,Nat.add_sub_cancel]
      rw [if_neg hp] at h3
      exact h3
  · obtain ⟨i,hi,hui,hc⟩:=HZ h hu
    have hs:(oc p c.Steps)[k]?=some s:=hs
    have hsi:c.Steps[i]?=some c.Steps[i]:=List.getElem?_eq_getElem hi
    obtain ⟨h1,h2⟩:=Di (p:=p) hsi
    have no:∀ {P:Prop},(r:Int)∈i9 jB→P:=fun hx=>by
      have:i9 jB=[]:=rfl
      rw [this] at hx
      cases hx
    rcases hc with rfl | ⟨hp,rfl⟩
    · rw [hs] at h1
      by_cases hp:p i=true
      · rw [if_pos hp] at h1
        cases h1
        exact no hrd
      · rw [if_neg hp] at h1
        cases h1
        rw [Eb] at hrd
        exact h.nb i _ hsi r hr hrd hui
    · have h2:=h2 hp
      rw [hs] at h2
      cases h2
      rw [Eb] at hrd
      exact h.nb i _ hsi r hr hrd hui

end Go.Proofs.Ytaiokpalfdbnnaa
