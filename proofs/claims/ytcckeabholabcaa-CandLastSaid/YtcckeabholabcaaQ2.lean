/- What memory has at the end. Plain law. -/
import Derived.Test.YtcckeabholabcaaQ1
import Derived.Test.YtcckeabholabcaaS4
namespace Go.Proofs.Ytcckeabholabcaa
open Go A

/-- A loop that folds a list. -/
theorem zW {α σ:Type} {l:List α} {g:σ→α→σ} {Inv:Nat→σ→Prop} {step:σ×Int→Option ((σ×Int)⊕σ)} (hst:∀ (i:Nat) (h:i<l.length) (s:σ),Inv i s→step (s,(i:Int))=some (.inl (g s l[i],((i + 1:Nat):Int)))∧Inv (i + 1) (g s l[i])) (he:∀ s,step (s,(l.length:Int))=some (.inr s)) :
    ∀ (k i n:Nat) (s:σ),i + k=l.length→k<n→Inv i s→iter step n (s,(i:Int))=some ((l.drop i).foldl g s)∧Inv l.length ((l.drop i).foldl g s)
  | k,i,0,_,_,h,_=>by omega
  | 0,i,n + 1,s,hi,_,hv=>by
    have e:i=l.length:=by omega
    subst e
    rw [aZ,he,List.drop_length]
    exact ⟨rfl,hv⟩
  | k + 1,i,n + 1,s,hi,hn,hv=>by
    have h:i<l.length:=by omega
    obtain ⟨e,z2⟩:=hst i h s hv
    rw [aZ,e,List.drop_eq_getElem_cons h,List.foldl_cons]
    exact zW hst he k (i + 1) n _ (by omega) (by omega) z2
theorem uP {α σ:Type} {l:List α} {g:σ→α→σ} {Inv:Nat→σ→Prop} {step:σ×Int→Option ((σ×Int)⊕σ)} {n:Nat} {s:σ} (hst:∀ (i:Nat) (h:i<l.length) (s:σ),Inv i s→step (s,(i:Int))=some (.inl (g s l[i],((i + 1:Nat):Int)))∧Inv (i + 1) (g s l[i])) (he:∀ s,step (s,(l.length:Int))=some (.inr s)) (hn:l.length<n) (hv:Inv 0 s) :
    iter step n (s,0)=some (l.foldl g s)∧Inv l.length (l.foldl g s):=zW hst he l.length 0 n s (by omega) hn hv
theorem uQ (a v b:Int):∀ m:List (Int×Int),dh bB (eb bB m a v) b=if b=a then some v else dh bB m b
  | []=>by
    show (if bB b a=true then some v else none)=_
    unfold bB
    by_cases h:b=a <;> simp [h,dh]
  | e::m=>by
    unfold eb
    by_cases h:bB a e.1=true
    · have h1:a=e.1:=oV h
      rw [if_pos h]
      show (if bB b a=true then some v else dh bB m b)=if b=a then some v else (if bB b e.1=true then some e.2 else dh bB m b)
      unfold bB
      rw [← h1]
      by_cases h2:b=a <;> simp [h2]
    · rw [if_neg h]
      show (if bB b e.1=true then some e.2 else dh bB (eb bB m a v) b)=if b=a then some v else (if bB b e.1=true then some e.2 else dh bB m b)
      rw [uQ a v b m]
      unfold bB at h ⊢
      by_cases h2:b=a
      · subst h2
        simp at h
        simp [h]
      · simp [h2]
theorem pZ (a v:Int):∀ m:List (Int×Int),(eb bB m a v).map (·.1)=if a∈m.map (·.1) then m.map (·.1) else m.map (·.1)++[a]
  | []=>rfl
  | e::m=>by
    unfold eb
    by_cases h:bB a e.1=true
    · have h1:a=e.1:=oV h
      rw [if_pos h,List.map_cons,List.map_cons,← h1,if_pos List.mem_cons_self]
    · rw [if_neg h,List.map_cons,List.map_cons,pZ a v m]
      have h1:a≠e.1:=by unfold bB at h; simpa using h
      by_cases h2:a∈m.map (·.1)
      · rw [if_pos h2,if_pos (List.mem_cons_of_mem _ h2)]
      · rw [if_neg h2,if_neg (fun h3=>(List.mem_cons.1 h3).elim h1 h2)]
        rfl
theorem zX {a v:Int}:∀ {m:List (Int×Int)},dh bB m a=some v→a∈m.map (·.1)
  | [],h=>by cases h
  | e::m,h=>by
    unfold dh at h
    by_cases h1:bB a e.1=true
    · rw [oV h1]
      exact List.mem_cons_self
    · rw [if_neg h1] at h
      exact List.mem_cons_of_mem _ (zX h)
def Asc (l:List Cell):Prop:=l.Pairwise fun x y=>x.Addr<y.Addr
structure H6 (m:List (Int×Int)) (l:List Cell):Prop where
  nd:(m.map (·.1)).Nodup
  asc:Asc l
  mem:∀ x:Cell,x∈l↔dh bB m x.Addr=some x.Value∧x.Value≠0
def Ey (l:List Cell) (a v:Int):List Cell:=l.filter (fun x=>decide (x.Addr<a))++(if v≠0 then [Cell.mk a v] else [])++l.filter (fun x=>decide (x.Addr>a))
theorem Ez {l:List Cell} {a v:Int} {x:Cell}:x∈Ey l a v↔(x∈l∧x.Addr≠a)∨(x=Cell.mk a v∧v≠0):=by
  unfold Ey
  simp only [List.mem_append,List.mem_filter,decide_eq_true_eq]
  by_cases hv:v≠0
  · rw [if_pos hv]
    simp only [List.mem_singleton]
    constructor
    · rintro ((⟨h1,h2⟩ | h) | ⟨h1,h2⟩)
      · exact .inl ⟨h1,by omega⟩
      · exact .inr ⟨h,hv⟩
      · exact .inl ⟨h1,by omega⟩
    · rintro (⟨h1,h2⟩ | ⟨h,_⟩)
      · rcases Int.lt_or_gt_of_ne h2 with h3 | h3
        · exact .inl (.inl ⟨h1,h3⟩)
        · exact .inr ⟨h1,h3⟩
      · exact .inl (.inr h)
  · rw [if_neg hv]
    constructor
    · rintro ((⟨h1,h2⟩ | h) | ⟨h1,h2⟩)
      · exact .inl ⟨h1,by omega⟩
      · cases h
      · exact .inl ⟨h1,by omega⟩
    · rintro (⟨h1,h2⟩ | ⟨_,h⟩)
      · rcases Int.lt_or_gt_of_ne h2 with h3 | h3
        · exact .inl (.inl ⟨h1,h3⟩)
        · exact .inr ⟨h1,h3⟩
      · exact absurd h hv
theorem EA {l:List Cell} {a v:Int} (h:Asc l):Asc (Ey l a v):=by
  unfold Ey Asc
  rw [List.pairwise_append,List.pairwise_append]
  refine ⟨⟨List.Pairwise.filter _ h,?_,fun x hx y hy=>?_⟩,List.Pairwise.filter _ h,fun x hx y hy=>?_⟩
  · split <;> simp
  · have h1:=(List.mem_filter.1 hx).2
    simp only [decide_eq_true_eq] at h1
    split at hy
    · rw [List.mem_singleton] at hy
      subst hy
      exact h1
    · cases hy
  · have h2:=(List.mem_filter.1 hy).2
    simp only [decide_eq_true_eq] at h2
    rcases List.mem_append.1 hx with hx | hx
    · have h1:=(List.mem_filter.1 hx).2
      simp only [decide_eq_true_eq] at h1
      omega
    · split at hx
      · rw [List.mem_singleton] at hx
        subst hx
        exact h2
      · cases hx
theorem H6.put {m:List (Int×Int)} {l:List Cell} (h:H6 m l) (a v:Int):H6 (eb bB m a v) (Ey l a v):=by
  refine ⟨?_,EA h.asc,fun x=>?_⟩
  · rw [pZ]
    split
    · exact h.nd
    · rename_i hn
      rw [List.nodup_append]
      exact ⟨h.nd,by simp,fun x hx y hy=>by rw [List.mem_singleton] at hy; subst hy; intro e; exact hn (e▸hx)⟩
  · rw [Ez,uQ,h.mem]
    obtain ⟨xa,xv⟩:=x
    by_cases hx:xa=a
    · subst hx
      simp only [ne_eq,not_true_eq_false,and_false,false_or,if_pos,Cell.mk.injEq,true_and,Option.some.injEq]
      constructor
      · rintro ⟨rfl,h2⟩
        exact ⟨rfl,h2⟩
      · rintro ⟨rfl,h2⟩
        exact ⟨rfl,h2⟩
    · simp [hx]
theorem H6.nil:H6 [] []:=⟨List.nodup_nil,List.Pairwise.nil,fun x=>by simp [dh]⟩

end Go.Proofs.Ytcckeabholabcaa
