/- The last memory, by the code and by the document. Plain law. -/
import Derived.Test.YtcckeabholabcaaGreatQ2
namespace Go.Proofs.YtcckeabholabcaaGreat
open Go A

def gm (all:List Event) (s:List (Int×Int)) (k:Int):List (Int×Int):=match ax all k with
  | some e=>if va e.Kind=true then kJ dH s e.Addr e.Store else s
  | none=>s
def gl (all:List Event) (s:List Cell) (k:Int):List Cell:=match ax all k with
  | some e=>if va e.Kind=true then sJ s e.Addr e.Store else s
  | none=>s
theorem xJ {α:Type} {g:List (Int×Int)→α→List (Int×Int)} {g':List Cell→α→List Cell} (h:∀ m s x,Hv m s→Hv (g m x) (g' s x)):∀ (l:List α) (m:List (Int×Int)) (s:List Cell),Hv m s→Hv (l.foldl g m) (l.foldl g' s)
  | [],_,_,r=>r
  | x::l,m,s,r=>xJ h l _ _ (h m s x r)
/-- Keys in range, and not many. -/
def Ls (k:Nat) (m:List (Int×Int)):Prop:=m.length≤k∧∀ a∈m.map (·.1),0≤a∧a≤18446744073709551615
theorem Ls.put {k:Nat} {m:List (Int×Int)} {a v:Int} (h:Ls k m) (ha:0≤a∧a≤18446744073709551615):Ls (k + 1) (kJ dH m a v):=by
  have e:=xG a v m
  have e2:=congrArg List.length e
  rw [List.length_map] at e2
  refine ⟨?_,fun b hb=>?_⟩
  · have:=h.1
    split at e2
    · rw [List.length_map] at e2; omega
    · rw [List.length_append,List.length_map] at e2; simp at e2; omega
  · rw [e] at hb
    split at hb
    · exact h.2 b hb
    · rcases List.mem_append.1 hb with hb | hb
      · exact h.2 b hb
      · rw [List.mem_singleton] at hb
        rw [hb]
        exact ha
theorem uQ (t:List (Int×Int)):∀ (ys:List Int) (acc:List Cell),ys.foldl (fun s a=>if (((fE dH t a).getD 0) != 0)=true then s++[Cell.mk a ((fE dH t a).getD 0)] else s) acc=acc++(ys.filter fun a=>((fE dH t a).getD 0) != 0).map fun a=>Cell.mk a ((fE dH t a).getD 0)
  | [],acc=>by simp
  | a::ys,acc=>by
    rw [List.foldl_cons,uQ t ys,List.filter_cons]
    split <;> simp
/-- Addresses are words. -/
structure Hz (c:ai):Prop where
  first:∀ x∈c.First,0≤x.Addr∧x.Addr≤18446744073709551615
  all:∀ e∈c.Harts.flatten,0≤e.Addr∧e.Addr≤18446744073709551615

theorem Lt (n:Nat) (c:ai) (hc:gJ c) (hr:ox n c) (hw:Hz c) (hn:2000≤n):∃ l:List Cell,jK n c=some l∧mX n c=some l∧l.length≤1000:=by
  have hf:=hc.first
  have ho:=hc.order
  have getO:∀ (i:Nat) (h:i<c.Order.length),∃ (j:Nat) (hj:j<c.Harts.flatten.length),c.Order[i]=(j:Int)∧ax c.Harts.flatten c.Order[i]=some c.Harts.flatten[j]:=fun i h=>by
    obtain ⟨j,hj,e,_⟩:=hr.ord i h
    exact ⟨j,hj,e,by rw [e,sK hj]⟩
  -- the code's map
  have m1:=ni (l:=c.First) (g:=fun s x=>kJ dH s x.Addr x.Value) (Inv:=Ls) (step:=fun s=>gK n c c.Harts.flatten s) (n:=n) (s:=[]) (fun i h s hv=>by
    unfold gK
    dsimp only
    rw [if_pos (by simp; omega),sK h,Option.bind_some,kH (by omega)]
    exact ⟨rfl,hv.put (hw.first _ (List.getElem_mem h))⟩) (fun s=>by unfold gK; exact pK) (by omega) ⟨Nat.le_refl _,fun a ha=>by cases ha⟩
  have m2:=ni (l:=c.Order) (g:=gm c.Harts.flatten) (Inv:=fun i s=>Ls (c.First.length + i) s) (step:=fun s=>gL n c c.Harts.flatten s) (n:=n) (s:=c.First.foldl (fun s x=>kJ dH s x.Addr x.Value) []) (fun i h s hv=>by
    obtain ⟨j,hj,_,e⟩:=getO i h
    unfold gL gm
    dsimp only
    rw [if_pos (by simp; omega),sK h,Option.bind_some,e,Option.bind_some,sF,Option.bind_some,kH (by omega)]
    dsimp only
    cases va (c.Harts.flatten[j]).Kind with
    | true =>
      rw [if_pos rfl,if_pos rfl]
      exact ⟨rfl,hv.put (hw.all _ (List.getElem_mem hj))⟩
    | false =>
      rw [if_neg (by simp),if_neg (by simp)]
      exact ⟨rfl,by have:=hv.1; omega,hv.2⟩) (fun s=>by unfold gL; exact pK) (by omega) m1.2
  -- the document's cells
  have l1:=ni (l:=c.First) (g:=fun s x=>sJ s x.Addr x.Value) (Inv:=fun i s=>Asc s∧s.length≤i) (step:=fun s=>iM n c c.Harts.flatten s) (n:=n) (s:=[]) (fun i h s hv=>by
    unfold iM
    dsimp only
    rw [if_pos (by simp; omega),sK h,Option.bind_some,Lr n s _ _ (by have:=hv.2; omega) hv.1 hn,Option.bind_some,kH (by omega)]
    exact ⟨rfl,xI hv.1,Nat.le_trans (CB _ _ _) (by have:=hv.2; omega)⟩) (fun s=>by unfold iM; exact pK) (by omega) ⟨List.Pairwise.nil,Nat.le_refl _⟩
  have l2:=ni (l:=c.Order) (g:=gl c.Harts.flatten) (Inv:=fun i s=>Asc s∧s.length≤c.First.length + i) (step:=fun s=>iN n c c.Harts.flatten s) (n:=n) (s:=c.First.foldl (fun s x=>sJ s x.Addr x.Value) []) (fun i h s hv=>by
    obtain ⟨j,hj,_,e⟩:=getO i h
    unfold iN gl
    dsimp only
    rw [if_pos (by simp; omega),sK h,Option.bind_some,e,Option.bind_some,nW,Option.bind_some,kH (by omega)]
    dsimp only
    cases va (c.Harts.flatten[j]).Kind with
    | true =>
      rw [if_pos rfl,if_pos rfl,Lr n s _ _ (by have:=hv.2; omega) hv.1 hn,Option.bind_some]
      exact ⟨rfl,xI hv.1,Nat.le_trans (CB _ _ _) (by have:=hv.2; omega)⟩
    | false =>
      rw [if_neg (by simp),if_neg (by simp)]
      exact ⟨rfl,hv.1,by have:=hv.2; omega⟩) (fun s=>by unfold iN; exact pK) (by omega) l1.2
  have rel:Hv (c.Order.foldl (gm c.Harts.flatten) (c.First.foldl (fun s x=>kJ dH s x.Addr x.Value) [])) (c.Order.foldl (gl c.Harts.flatten) (c.First.foldl (fun s x=>sJ s x.Addr x.Value) [])):=by
    refine xJ (fun m s k r=>?_) _ _ _ (xJ (fun m s (x:Cell) r=>r.put x.Addr x.Value) _ _ _ Hv.nil)
    unfold gm gl
    cases ax c.Harts.flatten k with
    | none=>exact r
    | some e =>
      dsimp only
      split
      · exact r.put _ _
      · exact r
  generalize hm:c.Order.foldl (gm c.Harts.flatten) (c.First.foldl (fun s x=>kJ dH s x.Addr x.Value) [])=m at m2 rel
  generalize hl:c.Order.foldl (gl c.Harts.flatten) (c.First.foldl (fun s x=>sJ s x.Addr x.Value) [])=l at l2 rel
  have hlen:l.length≤1000:=by have:=l2.2.2; omega
  refine ⟨l,?_,?_,hlen⟩
  · unfold jK
    rw [iI n c hc (by omega) hr,Option.bind_some,if_neg (by simp),xF n c hc (by omega),Option.bind_some,m1.1,Option.bind_some,m2.1,Option.bind_some]
    have hk:co n c.First c.Harts c.From c.Order m=some ():=rfl
    rw [hk,Option.bind_some]
    unfold eE vc
    have hkl:(m.map (·.1)).length=m.length:=List.length_map _
    by_cases h0:(m.map (·.1)).length=0
    · rw [if_pos h0,Option.bind_some]
      dsimp only
      have h3:iter (fun s=>kU n c m s) n ()=some ():=by
        obtain ⟨n',rfl⟩:∃ n',n=n' + 1:=⟨n - 1,by omega⟩
        rfl
      rw [h3,Option.bind_some]
      congr 1
      refine (List.eq_nil_iff_forall_not_mem.2 fun x hx=>?_).symm
      have:=xH ((rel.mem x).1 hx).1
      rw [List.length_eq_zero_iff.1 h0] at this
      cases this
    · have nodU:∀ {l:List Int},l.Nodup→sL l=true:=by
        intro l
        induction l with
        | nil=>intro _; rfl
        | cons x l ih =>
          intro h
          have h:=List.nodup_cons.1 h
          unfold sL
          rw [ih h.2,Bool.and_true,Bool.not_eq_true',List.any_eq_false]
          intro y hy
          simp only [beq_iff_eq]
          intro e
          subst e
          exact h.1 hy
      rw [if_neg h0,fx (by
        rw [Bool.and_eq_true,Bool.and_eq_true]
        refine ⟨⟨nodU rel.nd,List.all_eq_true.2 fun a ha=>?_⟩,fB (by have:=m2.2.1; omega)⟩
        have:=m2.2.2 a ha
        simp only [Bool.and_eq_true,decide_eq_true_eq]
        exact this),Option.bind_some]
      dsimp only
      have hp:=U.isort_perm (m.map (·.1))
      have hs:=U.isort_sorted (m.map (·.1))
      have hyl:=U.isort_len (m.map (·.1))
      generalize mE (m.map (·.1))=ys at hp hs hyl
      have e4:=ni (l:=ys) (g:=fun s a=>if (((fE dH m a).getD 0) != 0)=true then s++[Cell.mk a ((fE dH m a).getD 0)] else s) (Inv:=fun i s=>s.length≤i) (step:=fun s=>gM n c m ys s) (n:=n) (s:=[]) (fun i h s hv=>by
        have:=m2.2.1
        unfold gM
        dsimp only
        rw [if_pos (by simp; omega),sK h,Option.bind_some,kH (by omega),fx (fB (by omega))]
        by_cases hc:(((fE dH m ys[i]).getD 0) != 0)=true
        · rw [if_pos hc,if_pos hc]
          refine ⟨rfl,?_⟩
          rw [List.length_append]
          simp
          exact hv
        · rw [if_neg hc,if_neg hc]
          exact ⟨rfl,by omega⟩) (fun s=>by unfold gM; exact pK) (by have:=m2.2.1; omega) (Nat.le_refl _)
      rw [e4.1,Option.bind_some,uQ,List.nil_append]
      congr 1
      refine Hw ?_ rel.asc (fun x=>?_)
      · unfold Asc
        rw [List.pairwise_map]
        refine List.Pairwise.filter _ ?_
        have hnd:ys.Nodup:=hp.symm.nodup rel.nd
        exact (hs.and hnd).imp fun ⟨h1,h2⟩=>by dsimp only; omega
      · rw [rel.mem,List.mem_map]
        constructor
        · rintro ⟨a,ha,rfl⟩
          have h1:=List.mem_filter.1 ha
          dsimp only
          have h2:=h1.2
          cases hg:fE dH m a with
          | none=>rw [hg] at h2; simp at h2
          | some v =>
            rw [hg] at h2
            exact ⟨rfl,by simpa using h2⟩
        · rintro ⟨h1,h2⟩
          obtain ⟨a,v⟩:=x
          dsimp only at h1 h2
          refine ⟨a,List.mem_filter.2 ⟨hp.mem_iff.2 (xH h1),by rw [h1]; simpa using h2⟩,by rw [h1]; rfl⟩
  · unfold mX
    rw [uP n c hc (by omega) hr,Option.bind_some,if_neg (by simp),EA n c hc (by omega),Option.bind_some,l1.1,Option.bind_some,l2.1,Option.bind_some]
end Go.Proofs.YtcckeabholabcaaGreat
