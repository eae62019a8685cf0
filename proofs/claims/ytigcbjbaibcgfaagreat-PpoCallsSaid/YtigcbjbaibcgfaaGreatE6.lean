/- All events of a candidate, by both. Plain lists, no program in sight. -/
import Derived.Test.YtigcbjbaibcgfaaGreatE5
namespace Go.Proofs.YtigcbjbaibcgfaaGreat
open Go A

def FL (l:List (List Event)) (i:Nat):List Event:=(l.take i).flatten
theorem FL_succ {l:List (List Event)} {i:Nat} (h:i<l.length):FL l (i + 1)=FL l i++l[i]:=by
  unfold FL
  rw [List.take_succ_eq_append_getElem h,List.flatten_append]
  simp
theorem FL_all (l:List (List Event)) {i:Nat} (h:l.length≤i):FL l i=l.flatten:=by
  unfold FL
  rw [List.take_of_length_le h]
theorem FL_zero (l:List (List Event)):FL l 0=[]:=rfl
theorem FL_le (l:List (List Event)) (i:Nat):(FL l i).length≤l.flatten.length:=by
  have:l.flatten=FL l i++(l.drop i).flatten:=by
    unfold FL
    rw [← List.flatten_append,List.take_append_drop]
  rw [this,List.length_append]
  omega
theorem FL_row {l:List (List Event)} {i:Nat} (h:i<l.length):(FL l i).length + l[i].length≤l.flatten.length:=by
  have:=FL_le l (i + 1)
  rw [FL_succ h,List.length_append] at this
  exact this
/-- Not many events, harts, cells. -/
structure Light (c:Cand):Prop where
  harts:c.Harts.length≤9
  all:c.Harts.flatten.length≤60
  first:c.First.length≤30
  from_:c.From.length≤120
  order:c.Order.length≤60
  rows:∀ l∈c.Harts,smalls l
theorem lt_of {i:Nat} {m:Nat} (c:decide ((i:Int)<(m:Int))=true):i<m:=by
  have:(i:Int)<m:=by simpa using c
  omega
theorem ge_of {i:Nat} {m:Nat} (c:decide ((i:Int)<(m:Int))=false):m≤i:=by
  have:¬ (i:Int)<m:=by simpa using c
  omega
theorem ble_of {a b:Nat} (h:a≤b):Nat.ble a b=true:=by simpa using h
theorem copy_ (n:Nat) (d:Deps) (h:d.Addr.length≤60∧d.Data.length≤60∧d.Way.length≤60):ref_Copy n d=some d:=by
  unfold ref_Copy
  rw [grd_pos (ble_of (by omega)),grd_pos (ble_of (by omega)),grd_pos (ble_of (by omega))]
theorem flat_ (n:Nat) (c:Cand) (hc:Light c) (hn:200≤n):ref_flat n c=some c.Harts.flatten:=by
  have hh:=hc.harts
  have hf:=hc.all
  have key:T (ref_flat n c) (fun r=>r=c.Harts.flatten):=by
    unfold ref_flat
    refine T.bind (P:=fun r=>r=c.Harts.flatten) ?_ (fun r hr=>T.ret hr)
    refine T.loop c.Harts.length (fun i s=>s=(FL c.Harts i,(i:Int))) _ ?_ rfl (by omega)
    rintro i s hi rfl
    unfold ref_flat_L1
    refine T.ite (fun cd=>?_) (fun cd=>T.ret (FL_all _ (ge_of cd)))
    have hil:=lt_of cd
    have hrow:=hc.rows _ (List.getElem_mem hil)
    have hr:=FL_row hil
    refine T.bind (P:=fun r=>r=(FL c.Harts (i + 1),(i:Int))) ?_ (fun r hr=>by
      subst hr
      refine T.ret ⟨hil,?_⟩
      dsimp only
      rw [addN1 _ (by omega)])
    refine T.loop c.Harts[i].length (fun k s=>s=(FL c.Harts i++c.Harts[i].take k,(i:Int),(k:Int))) _ ?_ (by simp) (by omega)
    rintro k s hk rfl
    unfold ref_flat_L2
    refine T.get i rfl hil ?_
    refine T.ite (fun cd=>?_) (fun cd=>?_)
    · have hkl:=lt_of cd
      refine T.get k rfl hkl ?_
      refine T.eqb (copy_ n _ (hrow.2 _ (List.getElem_mem hkl))) ?_
      refine T.grd (ble_of (by simp only [List.length_append,List.length_take]; omega)) ?_
      refine T.ret ⟨hkl,?_⟩
      dsimp only
      rw [addN1 _ (by omega),List.take_succ_eq_append_getElem hkl,List.append_assoc]
    · refine T.fin ?_
      dsimp only
      rw [List.take_of_length_le (ge_of cd),FL_succ hil]
  obtain ⟨r,h1,h2⟩:=key
  rw [h1,h2]
theorem concat_ (n:Nat) (c:Cand) (hc:Light c) (hn:200≤n):slices_Concat_api_Event_api_Event n c.Harts=some c.Harts.flatten:=by
  have hh:=hc.harts
  have hf:=hc.all
  have key:T (slices_Concat_api_Event_api_Event n c.Harts) (fun r=>r=c.Harts.flatten):=by
    unfold slices_Concat_api_Event_api_Event
    refine T.bind (P:=fun r=>r=(c.Harts.flatten.length:Int)) ?_ ?_
    · refine T.loop c.Harts.length (fun i s=>s=((i:Int),((FL c.Harts i).length:Int))) _ ?_ rfl (by omega)
      rintro i s hi rfl
      unfold slices_Concat_api_Event_api_Event_L1
      refine T.ite (fun cd=>?_) (fun cd=>T.fin (by dsimp only; rw [FL_all _ (ge_of cd)]))
      have hil:=lt_of cd
      have hr:=FL_row hil
      refine T.get i rfl hil ?_
      dsimp only
      rw [addN _ _ (by omega)]
      refine T.ite (fun c1=>?_) (fun _=>?_)
      · have:((((FL c.Harts i).length + c.Harts[i].length:Nat)):Int)<0:=by simpa using c1
        omega
      · refine T.ret ⟨hil,?_⟩
        rw [addN1 _ (by omega),FL_succ hil,List.length_append]
    rintro _ rfl
    unfold slices_Grow_api_Event_api_Event_S
    generalize hz:(Event.mk 0 0 0 0 0 0 false false 0 0 0 (Deps.mk ([]:List Int) ([]:List Int) ([]:List Int)))=z
    have h0:¬ (c.Harts.flatten.length:Int)<0:=by omega
    have hsub:subW .i64 (c.Harts.flatten.length:Int) 0=(c.Harts.flatten.length:Int):=by rw [subI (by omega) (by omega)]; omega
    rw [if_neg (by simp),hsub]
    by_cases hp:0<c.Harts.flatten.length
    · rw [if_pos (decide_eq_true (by omega))]
      rw [grd_pos (by simp [Nat.blt,-List.length_flatten]; omega),grd_pos (by simp)]
      refine T.eqb rfl ?_
      refine T.bind (P:=fun t=>t.1=c.Harts.flatten.length∧t.2.2.take c.Harts.flatten.length=c.Harts.flatten) ?_ (fun t ht=>T.ret (by
        dsimp only
        rw [ht.1,List.drop_zero,ht.2]))
      refine T.loop c.Harts.length (fun i s=>s.1=(FL c.Harts i).length∧s.2.1=c.Harts.flatten.length - (FL c.Harts i).length∧s.2.2.1.length=c.Harts.flatten.length∧s.2.2.1.take (FL c.Harts i).length=FL c.Harts i∧s.2.2.2=(i:Int)) _ ?_ ⟨rfl,by simp [FL_zero],by simp,by simp [FL_zero],rfl⟩ (by omega)
      rintro i ⟨s1,s2,s3,s4⟩ hi ⟨e1,e2,e3,e4,e5⟩
      dsimp only at e1 e2 e3 e4 e5
      subst e1 e2 e5
      unfold slices_Concat_api_Event_api_Event_L2
      refine T.ite (fun cd=>?_) (fun cd=>?_)
      · have hil:=lt_of cd
        have hr:=FL_row hil
        refine T.get i rfl hil ?_
        refine T.grd (ble_of (by dsimp only; omega)) ?_
        refine T.grd (ble_of (by dsimp only; omega)) ?_
        dsimp only
        refine T.ret ⟨hil,?_⟩
        dsimp only
        rw [FL_succ hil,List.length_append]
        refine ⟨rfl,by omega,?_,?_,addN1 _ (by omega)⟩
        · simp only [List.length_append,List.length_take,List.length_drop]
          omega
        · rw [Nat.zero_add,e4,← List.append_assoc,List.take_append_of_le_length (by simp),List.take_of_length_le (by simp)]
      · refine T.ret ⟨by dsimp only; rw [FL_all _ (ge_of cd)],?_⟩
        dsimp only
        rw [FL_all _ (ge_of cd)] at e4
        exact e4
    · rw [if_neg (by rw [decide_eq_false (by omega)]; exact Bool.false_ne_true)]
      refine T.eqb rfl ?_
      have hL:T (iter (fun s=>slices_Concat_api_Event_api_Event_L3 n c.Harts s) n (([]:List Event),0)) (fun r=>r=c.Harts.flatten):=by
        refine T.loop c.Harts.length (fun i s=>s=(FL c.Harts i,(i:Int))) _ ?_ rfl (by omega)
        rintro i s hi rfl
        unfold slices_Concat_api_Event_api_Event_L3
        refine T.ite (fun cd=>?_) (fun cd=>T.fin (by dsimp only; rw [FL_all _ (ge_of cd)]))
        have hil:=lt_of cd
        have hr:=FL_row hil
        refine T.get i rfl hil ?_
        refine T.grd (ble_of (by dsimp only; omega)) ?_
        refine T.ret ⟨hil,?_⟩
        dsimp only
        rw [addN1 _ (by omega),FL_succ hil]
      exact T.bind hL (fun r hr=>T.ret hr)
  obtain ⟨r,h1,h2⟩:=key
  rw [h1,h2]
theorem cflat_ (n:Nat) (c:Cand) (hc:Light c) (hn:200≤n):cand_flat_S n c.First c.Harts c.From c.Order=some c.Harts.flatten:=by
  unfold cand_flat_S
  rw [concat_ n c hc hn]
  rfl

/-! ### The guard -/
theorem light_ (n:Nat) (c:Cand) (m:Nat) (hm:m≤30) (hn:200≤n):T (kit_LightCand n c (m:Int)) (fun b=>b=true→Light c∧c.Harts.flatten.length≤m):=by
  have hev:∀ l:List Event,T (kit_LightEvents n l (m:Int)) (fun b=>b=true→smalls l∧l.length≤m):=by
    intro l
    unfold kit_LightEvents
    refine T.ite (fun _=>T.ret (fun h=>by simp at h)) (fun c1=>?_)
    have hl:l.length≤m:=by
      have:¬ (l.length:Int)>(m:Int):=of_decide_eq_false c1
      omega
    refine T.bind (P:=fun (r:Unit⊕Unit)=>match r with | .inl _=>∀ e∈l,small e | .inr _=>True) ?_ (fun r hr=>by
      cases r with
      | inl _=>exact T.ret (fun _=>⟨⟨by omega,hr⟩,hl⟩)
      | inr _=>exact T.ret (fun h=>by simp at h))
    refine T.loop l.length (fun i s=>s=(i:Int)∧∀ (k:Nat) (_:k<i) (hk:k<l.length),small l[k]) _ ?_ ⟨rfl,fun k hk=>by omega⟩ (by omega)
    rintro i s hi ⟨rfl,hq⟩
    unfold kit_LightEvents_L1
    refine T.ite (fun cd=>?_) (fun cd=>?_)
    · have hil:=lt_of cd
      refine T.get i rfl hil ?_
      refine T.bind (P:=fun b=>b=true→small l[i]) ?_ ?_
      · unfold kit_LightDeps
        refine T.ite (fun d1=>?_) (fun _=>T.ret (fun h=>by simp at h))
        refine T.ite (fun d2=>?_) (fun _=>T.ret (fun h=>by simp at h))
        refine T.ret (fun d3=>?_)
        have d1:=of_decide_eq_true d1
        have d2:=of_decide_eq_true d2
        have d3:=of_decide_eq_true d3
        unfold small
        omega
      · intro b hb
        refine T.ite (fun _=>T.ret trivial) (fun c2=>?_)
        refine T.ret ⟨hil,addN1 _ (by omega),fun k hk hkl=>?_⟩
        by_cases e:k=i
        · subst e
          exact hb (by simpa using c2)
        · exact hq k (by omega) hkl
    · have:=ge_of cd
      refine T.ret (fun e he=>?_)
      obtain ⟨k,hk,rfl⟩:=List.getElem_of_mem he
      exact hq k (by omega) hk
  unfold kit_LightCand
  refine T.bind (P:=fun (r:Int⊕Unit)=>match r with | .inl w=>c.Harts.length≤9→(w=(c.Harts.flatten.length:Int)∧∀ l∈c.Harts,smalls l) | .inr _=>True) ?_ ?_
  · refine T.loop 10 (fun i s=>i≤c.Harts.length∧s=(((FL c.Harts i).length:Int),(i:Int))∧(FL c.Harts i).length≤100 * i∧∀ (k:Nat) (_:k<i) (hk:k<c.Harts.length),smalls c.Harts[k]) _ ?_ ⟨by omega,rfl,by simp [FL_zero],fun k hk=>by omega⟩ (by omega)
    rintro i s hi ⟨hi2,rfl,hs,hq⟩
    unfold kit_LightCand_L1
    have fin:c.Harts.length≤i→∀ l∈c.Harts,smalls l:=fun h l hl=>by
      obtain ⟨k,hk,rfl⟩:=List.getElem_of_mem hl
      exact hq k (by omega) hk
    refine T.ite (fun cd=>?_) (fun cd=>?_)
    · have hil:=lt_of cd
      refine T.ite (fun cd2=>?_) (fun cd2=>?_)
      · have hi10:i<10:=lt_of (m:=10) cd2
        refine T.get i rfl hil ?_
        refine T.bind (hev _) (fun b hb=>?_)
        refine T.ite (fun _=>T.ret trivial) (fun c2=>?_)
        have hb':=hb (by simpa using c2)
        dsimp only
        refine T.ret ⟨hi10,hil,?_,?_,fun k hk hkl=>?_⟩
        · rw [addN1 _ (by omega),addN _ _ (by omega),FL_succ hil,List.length_append]
        · rw [FL_succ hil,List.length_append]
          omega
        · by_cases e:k=i
          · subst e
            exact hb'.1
          · exact hq k (by omega) hkl
      · have:10≤i:=ge_of (m:=10) cd2
        exact T.ret (fun h=>by omega)
    · have:=ge_of cd
      exact T.ret (fun h=>⟨by dsimp only; rw [FL_all _ this],fin this⟩)
  · intro r hr
    cases r with
    | inr _=>exact T.ret (fun h=>by simp at h)
    | inl w =>
      refine T.ite (fun d1=>?_) (fun _=>T.ret (fun h=>by simp at h))
      refine T.ite (fun d2=>?_) (fun _=>T.ret (fun h=>by simp at h))
      refine T.ite (fun d3=>?_) (fun _=>T.ret (fun h=>by simp at h))
      refine T.ite (fun d4=>?_) (fun _=>T.ret (fun h=>by simp at h))
      refine T.ret (fun d5=>?_)
      have hmul:mulW .i64 2 (m:Int)=2 * (m:Int):=mulI (by omega) (by omega)
      rw [hmul] at d4 d5
      have d1:=of_decide_eq_true d1
      have d2:=of_decide_eq_true d2
      have d3:=of_decide_eq_true d3
      have d4:=of_decide_eq_true d4
      have d5:=of_decide_eq_true d5
      obtain ⟨e1,e2⟩:=hr (by omega)
      subst e1
      exact ⟨⟨by omega,by omega,by omega,by omega,by omega,e2⟩,by omega⟩
end Go.Proofs.YtigcbjbaibcgfaaGreat
