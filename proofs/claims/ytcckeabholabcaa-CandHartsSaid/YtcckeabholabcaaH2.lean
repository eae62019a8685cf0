/- Harts that are rotated: numbers, places. Plain law. -/
import Derived.Test.YtcckeabholabcaaH1
namespace Go.Proofs.Ytcckeabholabcaa
open Go A

def mr (B N k:Nat):Nat:=if k<B then k + (N - B) else k - B
def C4 (B N k:Nat):Nat:=if k<N - B then k + B else k - (N - B)
theorem Bd {B N k:Nat} (hB:B≤N) (hk:k<N):mr B N k<N:=by
  unfold mr
  split <;> omega
theorem Be {B N k:Nat} (hB:B≤N) (hk:k<N):C4 B N k<N:=by
  unfold C4
  split <;> omega
theorem ye {B N k:Nat} (hB:B≤N) (hk:k<N):mr B N (C4 B N k)=k:=by
  unfold mr C4
  split <;> split <;> omega
theorem yf {B N k:Nat} (hB:B≤N) (hk:k<N):C4 B N (mr B N k)=k:=by
  unfold mr C4
  split <;> split <;> omega
theorem sB {B N i j:Nat} (hB:B≤N) (hi:i<N) (hj:j<N) (h:mr B N i=mr B N j):i=j:=by
  rw [← yf hB hi,← yf hB hj,h]
def gM (h:Int) (e:Event):Event:={ e with Hart:=h }
/-- Same events but harts. -/
theorem EP {e:Event} {h:Int} (ok:Ba e=true) (h0:0≤h) (h8:h<8):Ba (gM h e)=true:=by
  have hw:qc (gM h e)=gM h (qc e):=rfl
  have hs:∀ a:Event,od (qc e) e=true→od (qc (gM h e)) (gM h e)=true:=fun _ s=>by
    rw [hw]
    unfold od at s ⊢
    simp only [Bool.and_eq_true] at s ⊢
    refine ⟨s.1,s.2.1,s.2.2.1,?_⟩
    have:=bf.beq_eq s.2.2.2
    have e2:qV (gM h (qc e))=qV (gM h e):=by
      unfold qV at this ⊢
      simp only [bf.mk.injEq] at this ⊢
      exact ⟨rfl,this.2⟩
    rw [e2]
    exact bf.beq_refl _
  unfold Ba uT at ok ⊢
  simp only [Bool.and_eq_true,decide_eq_true_eq] at ok ⊢
  exact ⟨ok.1,h0,h8,ok.2.2.2.1,hs e ok.2.2.2.2.1,ok.2.2.2.2.2⟩
theorem C5 {l:List Event} {a h:Int} (r:rowP a l) (h0:0≤h) (h8:h<8):rowP h (l.map (gM h)):=by
  intro k hk
  rw [List.length_map] at hk
  obtain ⟨e1,_,e3,e4⟩:=r k hk
  unfold Is EF
  simp only [List.getElem_map]
  refine ⟨EP e1 h0 h8,rfl,e3,fun hk4=>?_⟩
  obtain ⟨p,hp,p1,p2,p3,p4⟩:=e4 hk4
  exact ⟨p,hp,p1,p2,p3,p4⟩
theorem C6 (l:List (List Event)) (b:Nat):(l.take b).flatten=l.flatten.take (FL l b).length:=by
  have e:l.flatten=FL l b++(l.drop b).flatten:=by
    unfold FL
    rw [← List.flatten_append,List.take_append_drop]
  rw [e,List.take_left]
  rfl
theorem C7 (l:List (List Event)) (b:Nat):(l.drop b).flatten=l.flatten.drop (FL l b).length:=by
  have e:l.flatten=FL l b++(l.drop b).flatten:=by
    unfold FL
    rw [← List.flatten_append,List.take_append_drop]
  rw [e,List.drop_left]
/-- Rows rotated. -/
structure z_ (l m:List (List Event)) (b:Nat):Prop where
  hb:b<l.length
  len:m.length=l.length
  row:∀ (i:Nat) (h:i<m.length),m[i]=(l[(i + b) % l.length]'(Nat.mod_lt _ (by omega))).map (gM (i:Int))
theorem z_.map {l m:List (List Event)} {b:Nat} (r:z_ l m b):m.map (List.map (gM 0))=(l.drop b++l.take b).map (List.map (gM 0)):=by
  have hb:=r.hb
  refine List.ext_getElem (by simp [r.len]; omega) fun i h1 h2=>?_
  rw [List.length_map] at h1
  have hl:=r.len
  rw [List.getElem_map,List.getElem_map,r.row i h1,List.map_map]
  have e:∀ q:List Event,q.map (gM 0∘gM (i:Int))=q.map (gM 0):=fun q=>rfl
  rw [e]
  congr 1
  rcases Nat.lt_or_ge (i + b) l.length with h | h
  · rw [List.getElem_append_left (by rw [List.length_drop]; omega),List.getElem_drop]
    congr 1
    rw [Nat.mod_eq_of_lt h]
    omega
  · rw [List.getElem_append_right (by rw [List.length_drop]; omega),List.getElem_take]
    congr 1
    rw [List.length_drop,Nat.mod_eq_sub_mod h,Nat.mod_eq_of_lt (by omega)]
    omega
theorem z_.flat {l m:List (List Event)} {b:Nat} (r:z_ l m b):m.flatten.map (gM 0)=(l.flatten.drop (FL l b).length++l.flatten.take (FL l b).length).map (gM 0):=by
  rw [List.map_flatten,r.map,← List.map_flatten,List.flatten_append,C6,C7]
theorem z_.flen {l m:List (List Event)} {b:Nat} (r:z_ l m b):m.flatten.length=l.flatten.length:=by
  have:=congrArg List.length r.flat
  have h:=uU l b
  simp only [List.length_map,List.length_append,List.length_drop,List.length_take] at this
  omega
theorem z_.at_ {l m:List (List Event)} {b:Nat} (r:z_ l m b) (k:Nat) (hk:k<l.flatten.length):∃ h:mr (FL l b).length l.flatten.length k<m.flatten.length,gM 0 m.flatten[mr (FL l b).length l.flatten.length k]=gM 0 l.flatten[k]:=by
  have hB:=uU l b
  have hp:=Bd hB hk
  have hl:=r.flen
  refine ⟨by omega,?_⟩
  have e:=congrArg (fun x:List Event=>x[mr (FL l b).length l.flatten.length k]?) r.flat
  rw [List.getElem?_map,List.getElem?_map,List.getElem?_eq_getElem (by omega),List.getElem?_eq_getElem (by rw [List.length_append,List.length_drop,List.length_take]; omega)] at e
  rw [Option.map_some,Option.map_some] at e
  have e:=Option.some.inj e
  rw [e]
  congr 1
  unfold mr at hp ⊢
  split
  · rw [List.getElem_append_right (by rw [List.length_drop]; omega),List.getElem_take]
    congr 1
    rw [List.length_drop]
    omega
  · rw [List.getElem_append_left (by rw [List.length_drop]; omega),List.getElem_drop]
    congr 1
    omega
theorem z_.cntE {l m:List (List Event)} {b:Nat} (r:z_ l m b):cnt m.flatten m.flatten.length=cnt l.flatten l.flatten.length:=by
  have e:∀ q:List Event,cnt q q.length=(q.map (gM 0)).countP fun e=>nJ e.Kind:=fun q=>by
    unfold cnt
    rw [List.take_length,List.countP_map]
    rfl
  rw [e,e,r.flat,List.map_append,List.countP_append,Nat.add_comm,← List.countP_append,← List.map_append,List.take_append_drop]
/-- Where a row begins, in the rotated ones. -/
theorem z_.base {l m:List (List Event)} {b:Nat} (r:z_ l m b):∀ h:Nat,h≤m.length→(FL m h).length + (FL l b).length=if h + b≤l.length then (FL l (h + b)).length else l.flatten.length + (FL l (h + b - l.length)).length
  | 0,_=>by
    have:=r.hb
    rw [if_pos (by omega),jI,Nat.zero_add]
    simp
  | h + 1,hh=>by
    have hb:=r.hb
    have hl:=r.len
    have ih:=r.base h (by omega)
    rw [fy (by omega),List.length_append,r.row h (by omega),List.length_map]
    rcases Nat.lt_or_ge (h + b) l.length with c | c
    · rw [if_pos (by omega)] at ih
      rw [if_pos (by omega)]
      have e:h + 1 + b=h + b + 1:=by omega
      rw [e,fy (by omega),List.length_append,← ih]
      have e2:(h + b) % l.length=h + b:=Nat.mod_eq_of_lt c
      have e3:(l[(h + b) % l.length]'(Nat.mod_lt _ (by omega))).length=(l[h + b]).length:=by simp only [e2]
      omega
    · have e1:(if h + b≤l.length then (FL l (h + b)).length else l.flatten.length + (FL l (h + b - l.length)).length)=l.flatten.length + (FL l (h + b - l.length)).length:=by
        split
        · have:h + b=l.length:=by omega
          rw [this,ko l (Nat.le_refl _),Nat.sub_self,jI]
          simp
        · rfl
      rw [e1] at ih
      rw [if_neg (by omega)]
      have e:h + 1 + b - l.length=h + b - l.length + 1:=by omega
      rw [e,fy (by omega),List.length_append]
      have e2:(h + b) % l.length=h + b - l.length:=by rw [Nat.mod_eq_sub_mod c,Nat.mod_eq_of_lt (by omega)]
      have e3:(l[(h + b) % l.length]'(Nat.mod_lt _ (by omega))).length=(l[h + b - l.length]'(by omega)).length:=by simp only [e2]
      omega
/-- The old number of a place in the rotated ones. -/
theorem z_.old {l m:List (List Event)} {b:Nat} (r:z_ l m b) (h k:Nat) (hh:h<m.length) (hk:k<m[h].length):(FL l ((h + b) % l.length)).length + k=C4 (FL l b).length l.flatten.length ((FL m h).length + k):=by
  have hb:=r.hb
  have hl:=r.len
  have ih:=r.base h (by omega)
  rw [r.row h hh,List.length_map] at hk
  have hr:=mc (l:=l) (i:=(h + b) % l.length) (Nat.mod_lt _ (by omega))
  have hB:=uU l b
  unfold C4
  rcases Nat.lt_or_ge (h + b) l.length with c | c
  · rw [if_pos (by omega)] at ih
    have e2:(h + b) % l.length=h + b:=Nat.mod_eq_of_lt c
    have hr2:=mc (l:=l) (i:=h + b) c
    have e3:(l[(h + b) % l.length]'(Nat.mod_lt _ (by omega))).length=(l[h + b]).length:=by simp only [e2]
    rw [e2,if_pos (by omega)]
    omega
  · have e1:(if h + b≤l.length then (FL l (h + b)).length else l.flatten.length + (FL l (h + b - l.length)).length)=l.flatten.length + (FL l (h + b - l.length)).length:=by
      split
      · have:h + b=l.length:=by omega
        rw [this,ko l (Nat.le_refl _),Nat.sub_self,jI]
        simp
      · rfl
    rw [e1] at ih
    have e2:(h + b) % l.length=h + b - l.length:=by rw [Nat.mod_eq_sub_mod c,Nat.mod_eq_of_lt (by omega)]
    rw [e2,if_neg (by omega)]
    omega
end Go.Proofs.Ytcckeabholabcaa
