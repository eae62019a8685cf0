/- A candidate whose harts are rotated may be. Plain law. -/
import Derived.Test.YtcckeabholabcaaH2
import Derived.Test.YtcckeabholabcaaQ2
namespace Go.Proofs.Ytcckeabholabcaa
open Go A

def z4 (n:Nat) (first:List Cell) (all:List Event) (e:Event) (w:Int) (k:Nat):Prop :=
  (ES e.Kind=false∧w=-1)∨(ES e.Kind=true∧w=-1∧jQ n first e.Addr=some e.Load) ∨
  (ES e.Kind=true∧∃ j:Nat,∃ hj:j<all.length,w=(j:Int)∧j≠k∧F9 all[j].Kind=true∧all[j].Addr=e.Addr∧all[j].Store=e.Load)
theorem FE {n:Nat} {c:az} {all:List Event} {k:Nat} (h1:k<all.length) (h2:k<c.From.length) (p:z4 n c.First all all[k] c.From[k] k):de n c all (k:Int)=some true:=by
  unfold de
  rw [z9 h1,Option.bind_some,z9 h2,Option.bind_some,su,Option.bind_some]
  rcases p with ⟨a,b⟩ | ⟨a,b,d⟩ | ⟨a,j,hj,b,d,e,f,g⟩
  · rw [if_pos (by simp [a]),b]
    rfl
  · rw [if_neg (by simp [a]),if_pos (by simp [b]),d,Option.bind_some]
    simp
  · rw [if_neg (by simp [a]),if_neg (by simp; omega),if_neg (by simp; omega),if_neg (by simp; omega),if_neg (by simp; omega),b,z9 hj,Option.bind_some,nj,Option.bind_some,if_pos e,if_pos (by simp [f])]
    simp [g]
theorem wO {n:Nat} {c:az} {all:List Event} {k:Nat} (h1:k<all.length) (h2:k<c.From.length) (hcells:ma c.First) (hf:c.First.length≤100) (hn:200≤n) (h:de n c all (k:Int)=some true):z4 n c.First all all[k] c.From[k] k:=by
  unfold de at h
  rw [z9 h1,Option.bind_some,z9 h2,Option.bind_some,su,Option.bind_some] at h
  unfold z4
  by_cases a:ES all[k].Kind=true
  · rw [if_neg (by simp [a])] at h
    by_cases b:c.From[k]=-1
    · rw [if_pos (by simp [b])] at h
      obtain ⟨v,e1,e2⟩:=EG n c.First all[k].Addr hcells hf hn
      rw [e1,Option.bind_some] at h
      have:all[k].Load=v:=by simpa using h
      exact .inr (.inl ⟨a,b,by rw [e1,this]⟩)
    · rw [if_neg (by simp [b])] at h
      by_cases d:c.From[k]<0
      · rw [if_pos (by simpa using d)] at h
        simp at h
      rw [if_neg (by simpa using d)] at h
      by_cases e:c.From[k]≥(all.length:Int)
      · rw [if_pos (by simpa using e)] at h
        simp at h
      rw [if_neg (by simpa using e)] at h
      by_cases f:c.From[k]=(k:Int)
      · rw [if_pos (by simpa using f)] at h
        simp at h
      rw [if_neg (by simpa using f)] at h
      obtain ⟨j,hj⟩:∃ j:Nat,c.From[k]=(j:Int):=⟨(c.From[k]).toNat,by omega⟩
      have hjl:j<all.length:=by omega
      rw [hj,z9 hjl,Option.bind_some,nj,Option.bind_some] at h
      by_cases g:F9 all[j].Kind=true
      · rw [if_pos g] at h
        by_cases i:all[j].Addr=all[k].Addr
        · rw [if_pos (by simpa using i)] at h
          exact .inr (.inr ⟨a,j,hjl,hj,by omega,g,i,by simpa using h⟩)
        · rw [if_neg (by simpa using i)] at h
          simp at h
      · rw [if_neg g] at h
        simp at h
  · have a:ES all[k].Kind=false:=by simpa using a
    rw [if_pos (by simp [a])] at h
    exact .inl ⟨a,by simpa using h⟩
/-- The rotated candidate. -/
structure yg (c d:az) (b:Nat):Prop where
  rot:z_ c.Harts d.Harts b
  first:d.First=c.First
  fromL:d.From.length=c.From.length
  from_:∀ (i:Nat) (h:i<c.From.length),d.From[mr (FL c.Harts b).length c.Harts.flatten.length i]?=some (if 0≤c.From[i] then ((mr (FL c.Harts b).length c.Harts.flatten.length (c.From[i]).toNat:Nat):Int) else -1)
  order:d.Order=c.Order.map fun x=>((mr (FL c.Harts b).length c.Harts.flatten.length x.toNat:Nat):Int)
theorem qe {a b:Event} (h:gM 0 a=gM 0 b):a.Kind=b.Kind∧a.Addr=b.Addr∧a.Load=b.Load∧a.Store=b.Store:=by
  unfold gM at h
  simp only [Event.mk.injEq] at h
  exact ⟨h.2.2.1,h.2.2.2.1,h.2.2.2.2.1,h.2.2.2.2.2.1⟩
theorem yg.light {c d:az} {b:Nat} (r:yg c d b) (hc:kN c):kN d:=by
  refine ⟨by rw [r.rot.len]; exact hc.harts,by rw [r.rot.flen]; exact hc.all,by rw [r.first]; exact hc.first,by rw [r.fromL]; exact hc.from_,by rw [r.order,List.length_map]; exact hc.order,fun l hl=>?_⟩
  obtain ⟨i,hi,rfl⟩:=List.getElem_of_mem hl
  have hb:=r.rot.hb
  have hs:=hc.rows _ (List.getElem_mem (Nat.mod_lt (i + b) (show 0<c.Harts.length by omega)))
  rw [r.rot.row i hi]
  refine ⟨by rw [List.length_map]; exact hs.1,fun e he=>?_⟩
  obtain ⟨x,hx,rfl⟩:=List.mem_map.1 he
  exact hs.2 x hx
theorem yg.ok {n:Nat} {c d:az} {b:Nat} (r:yg c d b) (hc:kN c) (h:Hg n c) (hn:200≤n):Hg n d:=by
  have hB:=uU c.Harts b
  have hl:=r.rot.len
  have hfl:=r.rot.flen
  have hat:=fun k hk=>r.rot.at_ k hk
  have hfrom:=h.fromLen
  have hFL:=r.fromL
  generalize hBe:(FL c.Harts b).length=B at *
  refine ⟨by rw [hl]; exact h.h1,by rw [hl]; exact h.h8,by rw [r.first]; exact h.cells,by rw [r.first]; exact h.cellsB,fun i hi=>?_,by omega,fun k' hk'=>?_,fun i hi=>?_,fun i j hi hj hij=>?_,?_⟩
  · rw [r.rot.row i hi]
    have:=h.h8
    exact C5 (h.rows _ _) (by omega) (by omega)
  · have hk2:k'<c.Harts.flatten.length:=by omega
    have hs:=Be hB hk2
    have hps:=ye hB hk2
    generalize C4 B c.Harts.flatten.length k'=k at hs hps
    obtain ⟨hp,e⟩:=hat k hs
    have hkF:k<c.From.length:=by omega
    have fp:=wO hs hkF h.cells (by have:=hc.first; omega) hn (h.froms k hs)
    have fr:=r.from_ k hkF
    rw [hBe] at fr
    rw [hps] at fr
    have e':gM 0 (d.Harts.flatten[k'])=gM 0 c.Harts.flatten[k]:=by simpa only [hps] using e
    obtain ⟨g1,g2,g3,g4⟩:=qe e'
    have hkd:k'<d.From.length:=by omega
    rw [List.getElem?_eq_getElem hkd] at fr
    have fr:=Option.some.inj fr
    refine FE hk' hkd ?_
    unfold z4 at fp ⊢
    rw [r.first,g1,g2,g3,fr]
    rcases fp with ⟨a,b⟩ | ⟨a,b,x⟩ | ⟨a,j,hj,b,x,f,g,i⟩
    · exact .inl ⟨a,by rw [b]; rfl⟩
    · exact .inr (.inl ⟨a,by rw [b]; rfl,x⟩)
    · obtain ⟨hpj,ej⟩:=hat j hj
      obtain ⟨k1,k2,k3,k4⟩:=qe ej
      refine .inr (.inr ⟨a,mr B c.Harts.flatten.length j,hpj,?_,fun e2=>?_,by rw [k1]; exact f,by rw [k2]; exact g,by rw [k4]; exact i⟩)
      · rw [b,if_pos (by omega),Int.toNat_natCast]
      · rw [← hps] at e2
        exact x (sB hB hj hs e2)
  · have ho:=r.order
    have hil:i<c.Order.length:=by rw [ho,List.length_map] at hi; exact hi
    obtain ⟨j,hj,e1,e2⟩:=h.ord i hil
    obtain ⟨hpj,ej⟩:=hat j hj
    obtain ⟨k1,k2,k3,k4⟩:=qe ej
    refine ⟨_,hpj,?_,by rw [k1]; exact e2⟩
    simp only [ho,List.getElem_map,hBe,e1,Int.toNat_natCast]
  · have ho:=r.order
    have hil:i<c.Order.length:=by rw [ho,List.length_map] at hi; exact hi
    have hjl:j<c.Order.length:=by rw [ho,List.length_map] at hj; exact hj
    obtain ⟨x,hx,e1,_⟩:=h.ord i hil
    obtain ⟨y,hy,e2,_⟩:=h.ord j hjl
    simp only [ho,List.getElem_map,hBe,e1,e2,Int.toNat_natCast]
    intro e3
    have e4:=sB hB hx hy (Int.ofNat.inj e3)
    exact h.dist i j hil hjl hij (by rw [e1,e2,e4])
  · rw [r.order,List.length_map,h.count,r.rot.cntE]

/-! ### The last memory -/
def gm (all:List Event) (s:List (Int×Int)) (k:Int):List (Int×Int):=match aH all k with
  | some e=>if F9 e.Kind=true then hG bo s e.Addr e.Store else s
  | none=>s
/-- Keys in range, not many, each once. -/
def Ig (k:Nat) (m:List (Int×Int)):Prop:=(m.length≤k∧∀ a∈m.map (·.1),0≤a∧a≤18446744073709551615)∧(m.map (·.1)).Nodup
theorem Ig.put {k:Nat} {m:List (Int×Int)} {a v:Int} (h:Ig k m) (ha:0≤a∧a≤18446744073709551615):Ig (k + 1) (hG bo m a v):=by
  have e:=qd a v m
  have e2:=congrArg List.length e
  rw [List.length_map] at e2
  refine ⟨⟨?_,fun b hb=>?_⟩,?_⟩
  · have:=h.1.1
    split at e2
    · rw [List.length_map] at e2; omega
    · rw [List.length_append,List.length_map] at e2; simp at e2; omega
  · rw [e] at hb
    split at hb
    · exact h.1.2 b hb
    · rcases List.mem_append.1 hb with hb | hb
      · exact h.1.2 b hb
      · rw [List.mem_singleton] at hb
        rw [hb]
        exact ha
  · rw [e]
    split
    · exact h.2
    · rename_i hn
      rw [List.nodup_append]
      exact ⟨h.2,by simp,fun x hx y hy=>by rw [List.mem_singleton] at hy; subst hy; intro e; exact hn (e▸hx)⟩
theorem rJ (t:List (Int×Int)):∀ (ys:List Int) (acc:List Cell),ys.foldl (fun s a=>if (((b9 bo t a).getD 0) != 0)=true then s++[Cell.mk a ((b9 bo t a).getD 0)] else s) acc=acc++(ys.filter fun a=>((b9 bo t a).getD 0) != 0).map fun a=>Cell.mk a ((b9 bo t a).getD 0)
  | [],acc=>by simp
  | a::ys,acc=>by
    rw [List.foldl_cons,rJ t ys,List.filter_cons]
    split <;> simp
/-- Addresses are words. -/
structure yh (c:az):Prop where
  first:∀ x∈c.First,0≤x.Addr∧x.Addr≤18446744073709551615
  all:∀ e∈c.Harts.flatten,0≤e.Addr∧e.Addr≤18446744073709551615
def Ho (c:az):List (Int×Int):=c.Order.foldl (gm c.Harts.flatten) (c.First.foldl (fun s x=>hG bo s x.Addr x.Value) [])
def EQ (m:List (Int×Int)):List Cell:=((jR (m.map (·.1))).filter fun a=>((b9 bo m a).getD 0) != 0).map fun a=>Cell.mk a ((b9 bo m a).getD 0)
theorem Gb (n:Nat) (c:az) (hc:kN c) (hr:Hg n c) (hw:yh c) (hn:2000≤n):jK n c=some (EQ (Ho c))∧(EQ (Ho c)).length≤1000:=by
  have hf:=hc.first
  have ho:=hc.order
  have getO:∀ (i:Nat) (h:i<c.Order.length),∃ (j:Nat) (hj:j<c.Harts.flatten.length),c.Order[i]=(j:Int)∧aH c.Harts.flatten c.Order[i]=some c.Harts.flatten[j]:=fun i h=>by
    obtain ⟨j,hj,e,_⟩:=hr.ord i h
    exact ⟨j,hj,e,by rw [e,z9 hj]⟩
  have m1:=uX (l:=c.First) (g:=fun s x=>hG bo s x.Addr x.Value) (Inv:=Ig) (step:=fun s=>fN n c c.Harts.flatten s) (n:=n) (s:=[]) (fun i h s hv=>by
    unfold fN
    dsimp only
    rw [if_pos (by simp; omega),z9 h,Option.bind_some,nk (by omega)]
    exact ⟨rfl,hv.put (hw.first _ (List.getElem_mem h))⟩) (fun s=>by unfold fN; exact C3) (by omega) ⟨⟨Nat.le_refl _,fun a ha=>by cases ha⟩,List.nodup_nil⟩
  have m2:=uX (l:=c.Order) (g:=gm c.Harts.flatten) (Inv:=fun i s=>Ig (c.First.length + i) s) (step:=fun s=>fO n c c.Harts.flatten s) (n:=n) (s:=c.First.foldl (fun s x=>hG bo s x.Addr x.Value) []) (fun i h s hv=>by
    obtain ⟨j,hj,_,e⟩:=getO i h
    unfold fO gm
    dsimp only
    rw [if_pos (by simp; omega),z9 h,Option.bind_some,e,Option.bind_some,nj,Option.bind_some,nk (by omega)]
    dsimp only
    cases F9 (c.Harts.flatten[j]).Kind with
    | true =>
      rw [if_pos rfl,if_pos rfl]
      exact ⟨rfl,hv.put (hw.all _ (List.getElem_mem hj))⟩
    | false =>
      rw [if_neg (by simp),if_neg (by simp)]
      exact ⟨rfl,⟨by have:=hv.1.1; omega,hv.1.2⟩,hv.2⟩) (fun s=>by unfold fO; exact C3) (by omega) m1.2
  unfold Ho
  generalize hm:c.Order.foldl (gm c.Harts.flatten) (c.First.foldl (fun s x=>hG bo s x.Addr x.Value) [])=m at m2
  have hkl:(m.map (·.1)).length=m.length:=List.length_map _
  have hyl:=U.isort_len (m.map (·.1))
  refine ⟨?_,by unfold EQ; rw [List.length_map]; exact Nat.le_trans (List.length_filter_le _ _) (by have:=m2.2.1.1; omega)⟩
  unfold jK
  rw [pe n c hc (by omega) hr,Option.bind_some,if_neg (by simp),yb n c hc (by omega),Option.bind_some,m1.1,Option.bind_some,m2.1,Option.bind_some]
  have hk:bT n c.First c.Harts c.From c.Order m=some ():=rfl
  rw [hk,Option.bind_some]
  unfold dW rY
  by_cases h0:(m.map (·.1)).length=0
  · rw [if_pos h0,Option.bind_some]
    dsimp only
    have h3:iter (fun s=>jC n c m s) n ()=some ():=by
      obtain ⟨n',rfl⟩:∃ n',n=n' + 1:=⟨n - 1,by omega⟩
      rfl
    rw [h3,Option.bind_some]
    unfold EQ
    rw [List.length_eq_zero_iff.1 h0]
    rfl
  · have nodU:∀ {l:List Int},l.Nodup→qf l=true:=by
      intro l
      induction l with
      | nil=>intro _; rfl
      | cons x l ih =>
        intro h
        have h:=List.nodup_cons.1 h
        unfold qf
        rw [ih h.2,Bool.and_true,Bool.not_eq_true',List.any_eq_false]
        intro y hy
        simp only [beq_iff_eq]
        intro e
        subst e
        exact h.1 hy
    rw [if_neg h0,iT (by
      rw [Bool.and_eq_true,Bool.and_eq_true]
      refine ⟨⟨nodU m2.2.2,List.all_eq_true.2 fun a ha=>?_⟩,iS (by have:=m2.2.1.1; omega)⟩
      have:=m2.2.1.2 a ha
      simp only [Bool.and_eq_true,decide_eq_true_eq]
      exact this),Option.bind_some]
    dsimp only
    unfold EQ
    generalize jR (m.map (·.1))=ys at hyl
    have e4:=uX (l:=ys) (g:=fun s a=>if (((b9 bo m a).getD 0) != 0)=true then s++[Cell.mk a ((b9 bo m a).getD 0)] else s) (Inv:=fun i s=>s.length≤i) (step:=fun s=>fP n c m ys s) (n:=n) (s:=[]) (fun i h s hv=>by
      have:=m2.2.1.1
      unfold fP
      dsimp only
      rw [if_pos (by simp; omega),z9 h,Option.bind_some,nk (by omega),iT (iS (by omega))]
      by_cases hc:(((b9 bo m ys[i]).getD 0) != 0)=true
      · rw [if_pos hc,if_pos hc]
        refine ⟨rfl,?_⟩
        rw [List.length_append]
        simp
        exact hv
      · rw [if_neg hc,if_neg hc]
        exact ⟨rfl,by omega⟩) (fun s=>by unfold fP; exact C3) (by have:=m2.2.1.1; omega) (Nat.le_refl _)
    rw [e4.1,Option.bind_some,rJ,List.nil_append]
theorem wP {α σ:Type} {f g:σ→α→σ}:∀ (l:List α) (s:σ),(∀ x∈l,∀ s,f s x=g s x)→l.foldl f s=l.foldl g s
  | [],_,_=>rfl
  | x::l,s,h=>by
    rw [List.foldl_cons,List.foldl_cons,h x List.mem_cons_self]
    exact wP l _ fun y hy=>h y (List.mem_cons_of_mem _ hy)
theorem yg.last {n:Nat} {c d:az} {b:Nat} (r:yg c d b) (h:Hg n c):Ho d=Ho c:=by
  unfold Ho
  rw [r.first,r.order,List.foldl_map]
  refine wP _ _ fun x hx s=>?_
  obtain ⟨i,hi,rfl⟩:=List.getElem_of_mem hx
  obtain ⟨j,hj,e1,_⟩:=h.ord i hi
  obtain ⟨hp,e⟩:=r.rot.at_ j hj
  obtain ⟨k1,k2,k3,k4⟩:=qe e
  unfold gm
  rw [e1,Int.toNat_natCast,z9 hj,z9 hp]
  dsimp only
  rw [k1,k2,k4]
theorem yg.addr {c d:az} {b:Nat} (r:yg c d b) (h:yh c):yh d:=by
  refine ⟨by rw [r.first]; exact h.first,fun e he=>?_⟩
  have h1:gM 0 e∈d.Harts.flatten.map (gM 0):=List.mem_map_of_mem he
  rw [r.rot.flat] at h1
  obtain ⟨x,hx,e2⟩:=List.mem_map.1 h1
  have hx2:x∈c.Harts.flatten:=by
    rcases List.mem_append.1 hx with hx | hx
    · exact List.mem_of_mem_drop hx
    · exact List.mem_of_mem_take hx
  have:=(qe e2).2.1
  rw [← this]
  exact h.all x hx2
end Go.Proofs.Ytcckeabholabcaa
