/- What is live at one step, out of those behind it -/
import Derived.Test.YteafbimadlcljaaDoorA5
namespace Go.Proofs.YteafbimadlcljaaDoor
open Go A

def gb (bs:List W) (j r:Nat):Prop:=∃ b,bs[j]?=some b∧b.getLsbD r=true
def Ls (R:Nat) (bs:List W):List (Option (List Int)):=Cs R (bs.map some)
theorem zS {R:Nat} {bs:List W} {k:Nat} (h:k<bs.length):aH (Ls R bs) (k:Int)=some (some (sw R bs[k])):=by
  unfold Ls
  rw [iJ (by rw [List.length_map]; exact h),List.getElem_map]
  rfl
theorem C0 {R:Nat} {bs:List W} (k:Nat) (b:W):(Ls R bs).set ((k:Int)).toNat (some (sw R b))=Ls R (bs.set k b):=by
  unfold Ls
  rw [gI,List.map_set]
theorem AG {R:Nat} {bs:List W} {k:Nat} (h:k<bs.length):(Ls R bs).set ((k:Int)).toNat (some (sw R bs[k]))=Ls R bs:=by
  rw [C0,List.set_getElem_self]

theorem Ft {R:Nat} (n:Nat) (hn:4≤n) (c:bh) (t15:(List (Option (List Int)))×(List (Option (List Int)))×(List Int)) (x:Int) (nx:List Int) (bs:List W) (hnx:AB bs.length nx) (ws:List Int) :
    T (iter (fun s=>ik n c t15 x nx s) n (Ls R bs,ws,sw R 0#64,0)) (fun t=>∃ o,t=(Ls R bs,ws,sw R o)∧∀ r,r<64→(o.getLsbD r=true↔∃ j:Nat,(j:Int)∈nx∧gb bs j r)):=by
  have h2:=hnx.1
  refine T.loop nx.length (fun i s=>∃ o,s=(Ls R bs,ws,sw R o,(i:Int))∧∀ r,r<64→(o.getLsbD r=true↔∃ j:Nat,(j:Int)∈nx.take i∧gb bs j r)) _ (fun i s hi hs=>?_) ⟨0#64,rfl,fun r _=>by simp⟩ (by omega)
  obtain ⟨o,rfl,ho⟩:=hs
  unfold ik
  refine T.ite (fun h=>?_) (fun h=>?_)
  · rw [decide_eq_true_eq] at h
    have hi':i<nx.length:=by simpa using h
    refine T.get i rfl hi' ?_
    have hk:=hnx.2 nx[i] (List.getElem_mem hi')
    obtain ⟨k,hkk⟩:∃ k:Nat,nx[i]=(k:Int):=⟨nx[i].toNat,by omega⟩
    have htk:nx.take (i + 1)=nx.take i++[(k:Int)]:=by rw [List.take_succ_eq_append_getElem hi',hkk]
    rw [hkk] at hk ⊢
    have hkN:k<bs.length:=by omega
    refine T.eqb (zS hkN) ?_
    show T (_:Option _) _
    refine T.eqb (Ga R n (by omega) _ _ _ _ o bs[k]) (T.next ⟨hi',o ||| bs[k],?_,fun r hr=>?_⟩)
    · rw [AG hkN,ga i (by omega)]
    · rw [BitVec.getLsbD_or,Bool.or_eq_true,ho r hr,htk]
      constructor
      · rintro (⟨j,h1,h2⟩ | h1)
        · exact ⟨j,List.mem_append_left _ h1,h2⟩
        · exact ⟨k,List.mem_append_right _ (List.mem_singleton.2 rfl),bs[k],List.getElem?_eq_getElem hkN,h1⟩
      · rintro ⟨j,h1,h2⟩
        rcases List.mem_append.1 h1 with h1 | h1
        · exact .inl ⟨j,h1,h2⟩
        · have:j=k:=by have:=List.mem_singleton.1 h1; omega
          subst this
          obtain ⟨b,hb,hr⟩:=h2
          rw [List.getElem?_eq_getElem hkN] at hb
          cases hb
          exact .inr hr
  · rw [decide_eq_false_iff_not] at h
    have e:i=nx.length:=by have:¬ ((i:Int)<(nx.length:Int)):=h; omega
    subst e
    rw [List.take_length] at ho
    exact T.fin ⟨o,rfl,ho⟩

theorem Fu {R:Nat} (hR:R≤60) (n:Nat) (hn:5≤n) (c:bh) (t15:(List (Option (List Int)))×(List (Option (List Int)))×(List Int)) (x:Int) (ta6:(List (Option (List Int)))×(List Int)×(List Int)) (rd:List Int) (hl:rd.length≤3) (hr:∀ r∈rd,0≤r∧r<(R:Int)) (ws:List Int) (o0:W) :
    T (iter (fun s=>ed n c t15 x ta6 s) n (ws,sw R o0,rd,(rd.length:Int),0)) (fun t=>∃ o,t=(ws,sw R o)∧∀ r,r<64→(o.getLsbD r=true↔(r:Int)∈rd∨o0.getLsbD r=true)):=by
  refine T.loop rd.length (fun i s=>∃ o,s=(ws,sw R o,rd,(rd.length:Int),(i:Int))∧∀ r,r<64→(o.getLsbD r=true↔(r:Int)∈rd.take i∨o0.getLsbD r=true)) _ (fun i s hi hs=>?_) ⟨o0,rfl,fun r _=>by simp⟩ (by omega)
  obtain ⟨o,rfl,ho⟩:=hs
  unfold ed
  refine T.ite (fun h=>?_) (fun h=>?_)
  · rw [decide_eq_true_eq] at h
    have hi':i<rd.length:=by simpa using h
    refine T.get i rfl hi' ?_
    have hk:=hr rd[i] (List.getElem_mem hi')
    obtain ⟨k,hkk⟩:∃ k:Nat,rd[i]=(k:Int):=⟨rd[i].toNat,by omega⟩
    have htk:rd.take (i + 1)=rd.take i++[(k:Int)]:=by rw [List.take_succ_eq_append_getElem hi',hkk]
    rw [hkk] at hk ⊢
    refine T.eqb (F9 hR (by omega) n _ _ _ o) (T.next ⟨hi',o ||| BitVec.twoPow 64 k,?_,fun r hr=>?_⟩)
    · rw [ga i (by omega)]
    · rw [BitVec.getLsbD_or,Bool.or_eq_true,ho r hr,htk,BitVec.getLsbD_twoPow,List.mem_append,List.mem_singleton]
      have:(decide (k<64)&&decide (k=r))=true↔(r:Int)=(k:Int):=by
        simp
        omega
      rw [this]
      constructor
      · rintro ((h | h) | h)
        · exact .inl (.inl h)
        · exact .inr h
        · exact .inl (.inr h)
      · rintro ((h | h) | h)
        · exact .inl (.inl h)
        · exact .inr h
        · exact .inl (.inr h)
  · rw [decide_eq_false_iff_not] at h
    have e:i=rd.length:=by have:¬ ((i:Int)<(rd.length:Int)):=h; omega
    subst e
    rw [List.take_length] at ho
    exact T.fin ⟨o,rfl,ho⟩

end Go.Proofs.YteafbimadlcljaaDoor
