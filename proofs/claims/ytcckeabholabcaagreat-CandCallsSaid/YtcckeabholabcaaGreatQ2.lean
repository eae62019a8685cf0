/- What memory has at the end. Plain law. -/
import Derived.Test.YtcckeabholabcaaGreatQ1
import Derived.Test.YtcckeabholabcaaGreatS4
namespace Go.Proofs.YtcckeabholabcaaGreat
open Go A

/-- A loop that folds a list. -/
theorem Cy {α σ:Type} {l:List α} {g:σ→α→σ} {Inv:Nat→σ→Prop} {step:σ×Int→Option ((σ×Int)⊕σ)} (hst:∀ (i:Nat) (h:i<l.length) (s:σ),Inv i s→step (s,(i:Int))=some (.inl (g s l[i],((i + 1:Nat):Int)))∧Inv (i + 1) (g s l[i])) (he:∀ s,step (s,(l.length:Int))=some (.inr s)) :
    ∀ (k i n:Nat) (s:σ),i + k=l.length→k<n→Inv i s→iter step n (s,(i:Int))=some ((l.drop i).foldl g s)∧Inv l.length ((l.drop i).foldl g s)
  | k,i,0,_,_,h,_=>by omega
  | 0,i,n + 1,s,hi,_,hv=>by
    have e:i=l.length:=by omega
    subst e
    rw [aQ,he,List.drop_length]
    exact ⟨rfl,hv⟩
  | k + 1,i,n + 1,s,hi,hn,hv=>by
    have h:i<l.length:=by omega
    obtain ⟨e,CF⟩:=hst i h s hv
    rw [aQ,e,List.drop_eq_getElem_cons h,List.foldl_cons]
    exact Cy hst he k (i + 1) n _ (by omega) (by omega) CF
theorem ni {α σ:Type} {l:List α} {g:σ→α→σ} {Inv:Nat→σ→Prop} {step:σ×Int→Option ((σ×Int)⊕σ)} {n:Nat} {s:σ} (hst:∀ (i:Nat) (h:i<l.length) (s:σ),Inv i s→step (s,(i:Int))=some (.inl (g s l[i],((i + 1:Nat):Int)))∧Inv (i + 1) (g s l[i])) (he:∀ s,step (s,(l.length:Int))=some (.inr s)) (hn:l.length<n) (hv:Inv 0 s) :
    iter step n (s,0)=some (l.foldl g s)∧Inv l.length (l.foldl g s):=Cy hst he l.length 0 n s (by omega) hn hv

/-! ### Maps and cells -/
theorem Cz (a v b:Int):∀ m:List (Int×Int),fE dH (kJ dH m a v) b=if b=a then some v else fE dH m b
  | []=>by
    show (if dH b a=true then some v else none)=_
    unfold dH
    by_cases h:b=a <;> simp [h,fE]
  | e::m=>by
    unfold kJ
    by_cases h:dH a e.1=true
    · have h1:a=e.1:=vb h
      rw [if_pos h]
      show (if dH b a=true then some v else fE dH m b)=if b=a then some v else (if dH b e.1=true then some e.2 else fE dH m b)
      unfold dH
      rw [← h1]
      by_cases h2:b=a <;> simp [h2]
    · rw [if_neg h]
      show (if dH b e.1=true then some e.2 else fE dH (kJ dH m a v) b)=if b=a then some v else (if dH b e.1=true then some e.2 else fE dH m b)
      rw [Cz a v b m]
      unfold dH at h ⊢
      by_cases h2:b=a
      · subst h2
        simp at h
        simp [h]
      · simp [h2]
theorem xG (a v:Int):∀ m:List (Int×Int),(kJ dH m a v).map (·.1)=if a∈m.map (·.1) then m.map (·.1) else m.map (·.1)++[a]
  | []=>rfl
  | e::m=>by
    unfold kJ
    by_cases h:dH a e.1=true
    · have h1:a=e.1:=vb h
      rw [if_pos h,List.map_cons,List.map_cons,← h1,if_pos List.mem_cons_self]
    · rw [if_neg h,List.map_cons,List.map_cons,xG a v m]
      have h1:a≠e.1:=by unfold dH at h; simpa using h
      by_cases h2:a∈m.map (·.1)
      · rw [if_pos h2,if_pos (List.mem_cons_of_mem _ h2)]
      · rw [if_neg h2,if_neg (fun h3=>(List.mem_cons.1 h3).elim h1 h2)]
        rfl
theorem xH {a v:Int}:∀ {m:List (Int×Int)},fE dH m a=some v→a∈m.map (·.1)
  | [],h=>by cases h
  | e::m,h=>by
    unfold fE at h
    by_cases h1:dH a e.1=true
    · rw [vb h1]
      exact List.mem_cons_self
    · rw [if_neg h1] at h
      exact List.mem_cons_of_mem _ (xH h)
def Asc (l:List Cell):Prop:=l.Pairwise fun x y=>x.Addr<y.Addr
structure Hv (m:List (Int×Int)) (l:List Cell):Prop where
  nd:(m.map (·.1)).Nodup
  asc:Asc l
  mem:∀ x:Cell,x∈l↔fE dH m x.Addr=some x.Value∧x.Value≠0
theorem Hw {l l':List Cell} (h1:Asc l) (h2:Asc l') (h:∀ x,x∈l↔x∈l'):l=l':=by
  induction l generalizing l' with
  | nil =>
    cases l' with
    | nil=>rfl
    | cons y l'=>exact absurd ((h y).2 List.mem_cons_self) (by simp)
  | cons x l ih =>
    cases l' with
    | nil=>exact absurd ((h x).1 List.mem_cons_self) (by simp)
    | cons y l' =>
      have a1:=List.pairwise_cons.1 h1
      have a2:=List.pairwise_cons.1 h2
      have e:x=y:=by
        rcases List.mem_cons.1 ((h x).1 List.mem_cons_self) with e | m1
        · exact e
        · rcases List.mem_cons.1 ((h y).2 List.mem_cons_self) with e | m2
          · exact e.symm
          · have:=a1.1 y m2
            have:=a2.1 x m1
            omega
      subst e
      rw [ih a1.2 a2.2 (fun z=>⟨fun hz=>?_,fun hz=>?_⟩)]
      · rcases List.mem_cons.1 ((h z).1 (List.mem_cons_of_mem _ hz)) with e | m
        · subst e
          have:=a1.1 z hz
          omega
        · exact m
      · rcases List.mem_cons.1 ((h z).2 (List.mem_cons_of_mem _ hz)) with e | m
        · subst e
          have:=a2.1 z hz
          omega
        · exact m
def sJ (l:List Cell) (a v:Int):List Cell:=l.filter (fun x=>decide (x.Addr<a))++(if v≠0 then [Cell.mk a v] else [])++l.filter (fun x=>decide (x.Addr>a))
theorem Hy {l:List Cell} {a v:Int} {x:Cell}:x∈sJ l a v↔(x∈l∧x.Addr≠a)∨(x=Cell.mk a v∧v≠0):=by
  unfold sJ
  simp only [List.mem_append,List.mem_filter,decide_eq_true_eq]
  by_cases hv:v≠0
  · rw [if_pos hv]
    simp only [List.mem_singleton]
    constructor
    · rintro ((⟨h1,h2⟩ | h) | ⟨h1,h2⟩)
      · exact .inl ⟨h1,by omega⟩
      · exact .inr ⟨h,hv⟩
      · exact .inl ⟨h1,by omega⟩
    · rintro (⟨h1,h2⟩ | ⟨h,_⟩)
      · rcases Int.lt_or_gt_of_ne h2 with h3 | h3
        · exact .inl (.inl ⟨h1,h3⟩)
        · exact .inr ⟨h1,h3⟩
      · exact .inl (.inr h)
  · rw [if_neg hv]
    constructor
    · rintro ((⟨h1,h2⟩ | h) | ⟨h1,h2⟩)
      · exact .inl ⟨h1,by omega⟩
      · cases h
      · exact .inl ⟨h1,by omega⟩
    · rintro (⟨h1,h2⟩ | ⟨_,h⟩)
      · rcases Int.lt_or_gt_of_ne h2 with h3 | h3
        · exact .inl (.inl ⟨h1,h3⟩)
        · exact .inr ⟨h1,h3⟩
      · exact absurd h hv
theorem xI {l:List Cell} {a v:Int} (h:Asc l):Asc (sJ l a v):=by
  unfold sJ Asc
  rw [List.pairwise_append,List.pairwise_append]
  refine ⟨⟨List.Pairwise.filter _ h,?_,fun x hx y hy=>?_⟩,List.Pairwise.filter _ h,fun x hx y hy=>?_⟩
  · split <;> simp
  · have h1:=(List.mem_filter.1 hx).2
    simp only [decide_eq_true_eq] at h1
    split at hy
    · rw [List.mem_singleton] at hy
      subst hy
      exact h1
    · cases hy
  · have h2:=(List.mem_filter.1 hy).2
    simp only [decide_eq_true_eq] at h2
    rcases List.mem_append.1 hx with hx | hx
    · have h1:=(List.mem_filter.1 hx).2
      simp only [decide_eq_true_eq] at h1
      omega
    · split at hx
      · rw [List.mem_singleton] at hx
        subst hx
        exact h2
      · cases hx
theorem CB (l:List Cell) (a v:Int):(sJ l a v).length≤l.length + 1:=by
  unfold sJ
  have h1:∀ l:List Cell,(l.filter (fun x=>decide (x.Addr<a))).length + (l.filter (fun x=>decide (x.Addr>a))).length≤l.length:=by
    intro l
    induction l with
    | nil=>simp
    | cons x l ih =>
      rw [List.filter_cons,List.filter_cons]
      by_cases h:x.Addr<a
      · have h2:¬ x.Addr>a:=by omega
        simp [h,h2]
        simp at ih
        omega
      · by_cases h2:x.Addr>a
        · simp [h,h2]
          simp at ih
          omega
        · simp [h,h2]
          simp at ih
          omega
  have:=h1 l
  rw [List.length_append,List.length_append]
  split <;> simp <;> simp at this <;> omega
theorem Hv.put {m:List (Int×Int)} {l:List Cell} (h:Hv m l) (a v:Int):Hv (kJ dH m a v) (sJ l a v):=by
  refine ⟨?_,xI h.asc,fun x=>?_⟩
  · rw [xG]
    split
    · exact h.nd
    · rename_i hn
      rw [List.nodup_append]
      exact ⟨h.nd,by simp,fun x hx y hy=>by rw [List.mem_singleton] at hy; subst hy; intro e; exact hn (e▸hx)⟩
  · rw [Hy,Cz,h.mem]
    obtain ⟨xa,xv⟩:=x
    by_cases hx:xa=a
    · subst hx
      simp only [ne_eq,not_true_eq_false,and_false,false_or,if_pos,Cell.mk.injEq,true_and,Option.some.injEq]
      constructor
      · rintro ⟨rfl,h2⟩
        exact ⟨rfl,h2⟩
      · rintro ⟨rfl,h2⟩
        exact ⟨rfl,h2⟩
    · simp [hx]
theorem Hv.nil:Hv [] []:=⟨List.nodup_nil,List.Pairwise.nil,fun x=>by simp [fE]⟩

/-! ### What the code does -/
theorem Lp (n:Nat) (l:List Cell) (a v:Int) (hl:l.length≤1000) (ha:Asc l):∀ (k i m:Nat),i + k=l.length→k<m→(∀ j (h:j<l.length),j<i→l[j].Addr<a)→iter (fun s=>fK n l a v s) m (l.take i,(i:Int))=some (l.filter fun x=>decide (x.Addr<a))
  | k,i,0,_,h,_=>by omega
  | 0,i,m + 1,hi,_,hp=>by
    have e:i=l.length:=by omega
    subst e
    rw [aQ]
    have st:fK n l a v (l.take l.length,(l.length:Int))=some (.inr l):=by
      unfold fK
      rw [pK,List.take_length]
    rw [st]
    have:l.filter (fun x=>decide (x.Addr<a))=l:=by
      rw [List.filter_eq_self]
      intro x hx
      obtain ⟨j,hj,rfl⟩:=List.getElem_of_mem hx
      simpa using hp j hj hj
    rw [this]
  | k + 1,i,m + 1,hi,hm,hp=>by
    have h:i<l.length:=by omega
    rw [aQ]
    have st:fK n l a v (l.take i,(i:Int))=if decide (l[i].Addr<a)=true then some (.inl (l.take i++[l[i]],((i + 1:Nat):Int))) else some (.inr (l.take i)):=by
      unfold fK
      dsimp only
      rw [if_pos (by simp; omega),sK h,Option.bind_some,fx (fB (by rw [List.length_take]; omega)),kH (by omega)]
    rw [st]
    by_cases hc:l[i].Addr<a
    · rw [if_pos (by simpa using hc)]
      have e:l.take i++[l[i]]=l.take (i + 1):=by rw [List.take_add_one,List.getElem?_eq_getElem h]; rfl
      rw [e]
      refine Lp n l a v hl ha k (i + 1) m (by omega) (by omega) (fun j hj hji=>?_)
      rcases Nat.lt_or_ge j i with h2 | h2
      · exact hp j hj h2
      · have:j=i:=by omega
        subst this
        exact hc
    · rw [if_neg (by simpa using hc)]
      have e2:l.filter (fun x=>decide (x.Addr<a))=l.take i:=by
        conv=>lhs; rw [← List.take_append_drop i l]
        rw [List.filter_append]
        have e3:(l.take i).filter (fun x=>decide (x.Addr<a))=l.take i:=by
          rw [List.filter_eq_self]
          intro x hx
          obtain ⟨j,hj,rfl⟩:=List.getElem_of_mem hx
          rw [List.length_take] at hj
          rw [List.getElem_take]
          simpa using hp j (by omega) (by omega)
        have e4:(l.drop i).filter (fun x=>decide (x.Addr<a))=[]:=by
          rw [List.filter_eq_nil_iff]
          intro x hx
          obtain ⟨j,hj,rfl⟩:=List.getElem_of_mem hx
          rw [List.length_drop] at hj
          rw [List.getElem_drop]
          simp only [decide_eq_true_eq]
          rcases Nat.eq_zero_or_pos j with rfl | hj0
          · simpa using hc
          · have:=List.pairwise_iff_getElem.1 ha i (i + j) h (by omega) (by omega)
            omega
        rw [e3,e4,List.append_nil]
      rw [e2]
theorem Lq (n:Nat) (l:List Cell) (a:Int) (hl:l.length≤1000) (s:List Cell) (hs:s.length≤2000) (m:Nat) (hm:l.length<m):iter (fun s=>fL n l a s) m (s,0)=some (s++l.filter fun x=>decide (x.Addr>a)):=by
  have h:=ni (l:=l) (g:=fun s x=>if decide (x.Addr>a)=true then s++[x] else s) (Inv:=fun i s'=>s'.length≤s.length + i) (step:=fun s=>fL n l a s) (n:=m) (s:=s) (fun i h s' hv=>?_) (fun s'=>?_) hm (by simp)
  · rw [h.1]
    congr 1
    have:∀ (l s:List Cell),l.foldl (fun s x=>if decide (x.Addr>a)=true then s++[x] else s) s=s++l.filter fun x=>decide (x.Addr>a):=by
      intro l
      induction l with
      | nil=>intro s; simp
      | cons x l ih =>
        intro s
        rw [List.foldl_cons,ih,List.filter_cons]
        split <;> simp
    exact this l s
  · unfold fL
    dsimp only
    rw [if_pos (by simp; omega),sK h,Option.bind_some,fx (fB (by omega)),kH (by omega)]
    by_cases hc:decide (l[i].Addr>a)=true
    · rw [if_pos hc,if_pos hc]
      refine ⟨rfl,?_⟩
      rw [List.length_append]
      simp
      omega
    · rw [if_neg hc,if_neg hc]
      exact ⟨rfl,by omega⟩
  · unfold fL
    exact pK
theorem Lr (n:Nat) (l:List Cell) (a v:Int) (hl:l.length≤1000) (ha:Asc l) (hn:2000≤n):ru n l a v=some (sJ l a v):=by
  unfold ru sJ
  have h1:iter (fun s=>fK n l a v s) n (([]:List Cell),0)=some (l.filter fun x=>decide (x.Addr<a)):=Lp n l a v hl ha l.length 0 n (by omega) (by omega) (fun j _ h=>by omega)
  have hf:=List.length_filter_le (fun x:Cell=>decide (x.Addr<a)) l
  rw [h1,Option.bind_some]
  by_cases hv:v=0
  · rw [if_neg (by simp [hv]),if_neg (by simp [hv]),Lq n l a hl _ (by omega) n (by omega),Option.bind_some,List.append_nil]
  · rw [if_pos (by simpa using hv),if_pos hv,fx (fB (by omega)),Lq n l a hl _ (by rw [List.length_append]; simp; omega) n (by omega),Option.bind_some]
end Go.Proofs.YtcckeabholabcaaGreat
