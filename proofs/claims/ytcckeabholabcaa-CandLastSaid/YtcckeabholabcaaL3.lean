/- What memory has at the end, by the code. Plain law. -/
import Derived.Test.YtcckeabholabcaaH1
import Derived.Test.YtcckeabholabcaaQ2
namespace Go.Proofs.Ytcckeabholabcaa
open Go A

def gm (all:List Event) (s:List (Int×Int)) (k:Int):List (Int×Int):=match aN all k with
  | some e=>if Fs e.Kind=true then eb bB s e.Addr e.Store else s
  | none=>s
/-- Keys in range, not many, each once. -/
def H7 (k:Nat) (m:List (Int×Int)):Prop:=(m.length≤k∧∀ a∈m.map (·.1),0≤a∧a≤18446744073709551615)∧(m.map (·.1)).Nodup
theorem H7.put {k:Nat} {m:List (Int×Int)} {a v:Int} (h:H7 k m) (ha:0≤a∧a≤18446744073709551615):H7 (k + 1) (eb bB m a v):=by
  have e:=pZ a v m
  have e2:=congrArg List.length e
  rw [List.length_map] at e2
  refine ⟨⟨?_,fun b hb=>?_⟩,?_⟩
  · have:=h.1.1
    split at e2
    · rw [List.length_map] at e2; omega
    · rw [List.length_append,List.length_map] at e2; simp at e2; omega
  · rw [e] at hb
    split at hb
    · exact h.1.2 b hb
    · rcases List.mem_append.1 hb with hb | hb
      · exact h.1.2 b hb
      · rw [List.mem_singleton] at hb
        rw [hb]
        exact ha
  · rw [e]
    split
    · exact h.2
    · rename_i hn
      rw [List.nodup_append]
      exact ⟨h.2,by simp,fun x hx y hy=>by rw [List.mem_singleton] at hy; subst hy; intro e; exact hn (e▸hx)⟩
theorem rt (t:List (Int×Int)):∀ (ys:List Int) (acc:List Cell),ys.foldl (fun s a=>if (((dh bB t a).getD 0) != 0)=true then s++[Cell.mk a ((dh bB t a).getD 0)] else s) acc=acc++(ys.filter fun a=>((dh bB t a).getD 0) != 0).map fun a=>Cell.mk a ((dh bB t a).getD 0)
  | [],acc=>by simp
  | a::ys,acc=>by
    rw [List.foldl_cons,rt t ys,List.filter_cons]
    split <;> simp
/-- Addresses are words. -/
structure EC (c:aS):Prop where
  first:∀ x∈c.First,0≤x.Addr∧x.Addr≤18446744073709551615
  all:∀ e∈c.Harts.flatten,0≤e.Addr∧e.Addr≤18446744073709551615
def BS (c:aS):List (Int×Int):=c.Order.foldl (gm c.Harts.flatten) (c.First.foldl (fun s x=>eb bB s x.Addr x.Value) [])
def nw (m:List (Int×Int)):List Cell:=((ji (m.map (·.1))).filter fun a=>((dh bB m a).getD 0) != 0).map fun a=>Cell.mk a ((dh bB m a).getD 0)
theorem H8 (n:Nat) (c:aS) (hc:pX c) (hr:Ij n c) (hw:EC c) (hn:2000≤n):kT n c=some (nw (BS c))∧(nw (BS c)).length≤1000:=by
  have hf:=hc.first
  have ho:=hc.order
  have getO:∀ (i:Nat) (h:i<c.Order.length),∃ (j:Nat) (hj:j<c.Harts.flatten.length),c.Order[i]=(j:Int)∧aN c.Harts.flatten c.Order[i]=some c.Harts.flatten[j]:=fun i h=>by
    obtain ⟨j,hj,e,_⟩:=hr.ord i h
    exact ⟨j,hj,e,by rw [e,Hb hj]⟩
  have m1:=uP (l:=c.First) (g:=fun s x=>eb bB s x.Addr x.Value) (Inv:=H7) (step:=fun s=>fM n c c.Harts.flatten s) (n:=n) (s:=[]) (fun i h s hv=>by
    unfold fM
    dsimp only
    rw [if_pos (by simp; omega),Hb h,Option.bind_some,pY (by omega)]
    exact ⟨rfl,hv.put (hw.first _ (List.getElem_mem h))⟩) (fun s=>by unfold fM; exact FA) (by omega) ⟨⟨Nat.le_refl _,fun a ha=>by cases ha⟩,List.nodup_nil⟩
  have m2:=uP (l:=c.Order) (g:=gm c.Harts.flatten) (Inv:=fun i s=>H7 (c.First.length + i) s) (step:=fun s=>fN n c c.Harts.flatten s) (n:=n) (s:=c.First.foldl (fun s x=>eb bB s x.Addr x.Value) []) (fun i h s hv=>by
    obtain ⟨j,hj,_,e⟩:=getO i h
    unfold fN gm
    dsimp only
    rw [if_pos (by simp; omega),Hb h,Option.bind_some,e,Option.bind_some,uL,Option.bind_some,pY (by omega)]
    dsimp only
    cases Fs (c.Harts.flatten[j]).Kind with
    | true =>
      rw [if_pos rfl,if_pos rfl]
      exact ⟨rfl,hv.put (hw.all _ (List.getElem_mem hj))⟩
    | false =>
      rw [if_neg (by simp),if_neg (by simp)]
      exact ⟨rfl,⟨by have:=hv.1.1; omega,hv.1.2⟩,hv.2⟩) (fun s=>by unfold fN; exact FA) (by omega) m1.2
  unfold BS
  generalize hm:c.Order.foldl (gm c.Harts.flatten) (c.First.foldl (fun s x=>eb bB s x.Addr x.Value) [])=m at m2
  have hkl:(m.map (·.1)).length=m.length:=List.length_map _
  have hyl:=U.isort_len (m.map (·.1))
  refine ⟨?_,by unfold nw; rw [List.length_map]; exact Nat.le_trans (List.length_filter_le _ _) (by have:=m2.2.1.1; omega)⟩
  unfold kT
  rw [uR n c hc (by omega) hr,Option.bind_some,if_neg (by simp),x6 n c hc (by omega),Option.bind_some,m1.1,Option.bind_some,m2.1,Option.bind_some]
  have hk:bX n c.First c.Harts c.From c.Order m=some ():=rfl
  rw [hk,Option.bind_some]
  unfold dW rI
  by_cases h0:(m.map (·.1)).length=0
  · rw [if_pos h0,Option.bind_some]
    dsimp only
    have h3:iter (fun s=>jw n c m s) n ()=some ():=by
      obtain ⟨n',rfl⟩:∃ n',n=n' + 1:=⟨n - 1,by omega⟩
      rfl
    rw [h3,Option.bind_some]
    unfold nw
    rw [List.length_eq_zero_iff.1 h0]
    rfl
  · have nodU:∀ {l:List Int},l.Nodup→p0 l=true:=by
      intro l
      induction l with
      | nil=>intro _; rfl
      | cons x l ih =>
        intro h
        have h:=List.nodup_cons.1 h
        unfold p0
        rw [ih h.2,Bool.and_true,Bool.not_eq_true',List.any_eq_false]
        intro y hy
        simp only [beq_iff_eq]
        intro e
        subst e
        exact h.1 hy
    rw [if_neg h0,m8 (by
      rw [Bool.and_eq_true,Bool.and_eq_true]
      refine ⟨⟨nodU m2.2.2,List.all_eq_true.2 fun a ha=>?_⟩,m7 (by have:=m2.2.1.1; omega)⟩
      have:=m2.2.1.2 a ha
      simp only [Bool.and_eq_true,decide_eq_true_eq]
      exact this),Option.bind_some]
    dsimp only
    unfold nw
    generalize ji (m.map (·.1))=ys at hyl
    have e4:=uP (l:=ys) (g:=fun s a=>if (((dh bB m a).getD 0) != 0)=true then s++[Cell.mk a ((dh bB m a).getD 0)] else s) (Inv:=fun i s=>s.length≤i) (step:=fun s=>fO n c m ys s) (n:=n) (s:=[]) (fun i h s hv=>by
      have:=m2.2.1.1
      unfold fO
      dsimp only
      rw [if_pos (by simp; omega),Hb h,Option.bind_some,pY (by omega),m8 (m7 (by omega))]
      by_cases hc:(((dh bB m ys[i]).getD 0) != 0)=true
      · rw [if_pos hc,if_pos hc]
        refine ⟨rfl,?_⟩
        rw [List.length_append]
        simp
        exact hv
      · rw [if_neg hc,if_neg hc]
        exact ⟨rfl,by omega⟩) (fun s=>by unfold fO; exact FA) (by have:=m2.2.1.1; omega) (Nat.le_refl _)
    rw [e4.1,Option.bind_some,rt,List.nil_append]
end Go.Proofs.Ytcckeabholabcaa
