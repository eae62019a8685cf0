/- The reference: some steps away, some fences put in -/
import Derived.Test.YtaiokpalfdbnnaaW3
namespace Go.Proofs.Ytaiokpalfdbnnaa
open Go A

def ln (g p:Nat→Bool):Nat→Nat
  | 0=>0
  | i + 1=>ln g p i + (if p i=true then 1 else 0) + (if g i=true then 0 else 1)
def u_ (g p:Nat→Bool) (l:List ab):Nat→List ab
  | 0=>[]
  | i + 1=>u_ g p l i++(match l[i]? with
    | some s=>(if p i=true then [jB] else [])++(if g i=true then [] else [s])
    | none=>[])
theorem pz {g p:Nat→Bool} {l:List ab} {i:Nat} {s:ab} (h:l[i]?=some s):u_ g p l (i + 1)=u_ g p l i++((if p i=true then [jB] else [])++(if g i=true then [] else [s])):=by
  show u_ g p l i++_=_
  rw [h]
theorem G8 (g p:Nat→Bool):∀ i,ln g p i≤2 * i
  | 0=>Nat.le_refl _
  | i + 1=>by
    have:=G8 g p i
    show ln g p i + (if p i=true then 1 else 0) + (if g i=true then 0 else 1)≤_
    split <;> split <;> omega
theorem Ei {g p:Nat→Bool} {l:List ab}:∀ {i:Nat},i≤l.length→(u_ g p l i).length=ln g p i
  | 0,_=>rfl
  | i + 1,h=>by
    have hs:l[i]?=some (l[i]'(by omega)):=List.getElem?_eq_getElem (by omega)
    rw [pz hs,List.length_append,Ei (by omega),List.length_append]
    show _=ln g p i + (if p i=true then 1 else 0) + (if g i=true then 0 else 1)
    split <;> split <;> rfl
def Bs (l:List Bool) (N:Nat) (g:Nat→Bool):Prop:=l.length=N∧∀ k,k<N→l[k]?=some (g k)
theorem Bs.get {l:List Bool} {N:Nat} {g:Nat→Bool} (h:Bs l N g) {i:Nat} (hi:i<N):az l (i:Int)=some (g i):=by
  rw [gJ,h.2 i hi]
theorem Bs.no (N:Nat):Bs (List.replicate N false) N (fun _=>false):=⟨List.length_replicate,fun k hk=>by rw [List.getElem?_replicate,if_pos hk]⟩
theorem Bs.one {N i:Nat} (hi:i<N):Bs ((List.replicate N false).set i true) N (only i):=⟨by rw [List.length_set,List.length_replicate],fun k hk=>by
  rw [aW (by rw [List.length_replicate]; exact hi)]
  unfold only
  split
  · rename_i e
    rw [e]
    simp
  · rename_i e
    rw [List.getElem?_replicate,if_pos hk]
    congr 1
    simp
    omega⟩
theorem Ot (n:Nat) (c:aj) (br put:List Bool) (g p:Nat→Bool) (hl:c.Steps.length≤4096) (hn:5000≤n) (hg:Bs br c.Steps.length g) (hp:Bs put c.Steps.length p) :
    T (iter (fun s=>jL n c br put s) n (List.replicate c.Steps.length (0:Int),0,0)) (fun t=>t.length=c.Steps.length∧∀ k,k<c.Steps.length→t[k]?=some ((ln g p k:Nat):Int)):=by
  refine T.loop c.Steps.length (fun i s=>∃ t:List Int,s=(t,((ln g p i:Nat):Int),(i:Int))∧t.length=c.Steps.length∧∀ k,k<i→t[k]?=some ((ln g p k:Nat):Int)) _ (fun i s hi hs=>?_) ⟨List.replicate c.Steps.length 0,rfl,List.length_replicate,fun k h=>by omega⟩ (by omega)
  obtain ⟨t,rfl,h1,h2⟩:=hs
  unfold jL
  refine T.ite (fun h=>?_) (fun h=>?_)
  · have h:=of_decide_eq_true h
    have h:(i:Int)<(c.Steps.length:Int):=h
    have hi':i<c.Steps.length:=by omega
    have hle:=G8 g p i
    have hx:ae .i64 (i:Int) 1=((i + 1:Nat):Int):=bM i (by omega)
    have hy:ae .i64 ((ln g p i:Nat):Int) 1=((ln g p i + 1:Nat):Int):=bM _ (by omega)
    have hz:ae .i64 ((ln g p i + 1:Nat):Int) 1=((ln g p i + 2:Nat):Int):=bM _ (by omega)
    have hset:∀ k,k<i + 1→(t.set i ((ln g p i:Nat):Int))[k]?=some ((ln g p k:Nat):Int):=fun k hk=>by
      rw [aW (by omega)]
      split
      · rename_i e
        rw [e]
      · exact h2 k (by omega)
    have h5:ln g p (i + 1)=ln g p i + (if p i=true then 1 else 0) + (if g i=true then 0 else 1):=rfl
    have fin:∀ v:Int,v=((ln g p (i + 1):Nat):Int)→T (some (.inl ((t.set ((i:Int)).toNat ((ln g p i:Nat):Int)),v,ae .i64 (i:Int) 1):(List Int×Int×Int)⊕List Int)) (Rd (fun s'=>i<c.Steps.length∧∃ t:List Int,s'=(t,((ln g p (i + 1):Nat):Int),((i + 1:Nat):Int))∧t.length=c.Steps.length∧∀ k,k<i + 1→t[k]?=some ((ln g p k:Nat):Int)) (fun t=>t.length=c.Steps.length∧∀ k,k<c.Steps.length→t[k]?=some ((ln g p k:Nat):Int))):=fun v hv =>
      T.next ⟨hi',_,by rw [hv,hx,Int.toNat_natCast],by rw [List.length_set]; exact h1,hset⟩
    refine T.get i rfl (by show i<t.length; omega) (T.eqb (hp.get hi') (T.ite (fun e1=>T.eqb (hg.get hi') (T.ite (fun e2=>fin _ ?_) (fun e2=>fin _ ?_))) (fun e1=>T.eqb (hg.get hi') (T.ite (fun e2=>fin _ ?_) (fun e2=>fin _ ?_)))))
    · have e2:¬ g i=true:=by simpa using e2
      show ae .i64 (ae .i64 ((ln g p i:Nat):Int) 1) 1=_
      rw [hy,hz,h5,if_pos e1,if_neg e2]
    · have e2:g i=true:=by simpa using e2
      show ae .i64 ((ln g p i:Nat):Int) 1=_
      rw [hy,h5,if_pos e1,if_pos e2]
    · have e2:¬ g i=true:=by simpa using e2
      have e1:¬ p i=true:=by simpa using e1
      show ae .i64 ((ln g p i:Nat):Int) 1=_
      rw [hy,h5,if_neg e1,if_neg e2]
    · have e2:g i=true:=by simpa using e2
      have e1:¬ p i=true:=by simpa using e1
      show ((ln g p i:Nat):Int)=_
      rw [h5,if_neg e1,if_pos e2]
      rfl
  · have h:=of_decide_eq_false h
    have h:¬ (i:Int)<(c.Steps.length:Int):=h
    exact T.fin ⟨h1,fun k hk=>h2 k (by omega)⟩
theorem Ou (n:Nat) (c:aj) (br put:List Bool) (g p:Nat→Bool) (hl:c.Steps.length≤4096) (hn:5000≤n) (hg:Bs br c.Steps.length g) (hp:Bs put c.Steps.length p) (t2:List Int) (ht:∀ k,k<c.Steps.length→t2[k]?=some ((ln g p k:Nat):Int)) (hto:∀ s∈c.Steps,s.Op=8∨s.Op=9→0≤s.To∧s.To.toNat<c.Steps.length) :
    T (iter (fun s=>jM n c br put t2 s) n (([]:List ab),0)) (fun t=>t=(u_ g p c.Steps c.Steps.length).map (mv (ln g p))):=by
  refine T.loop c.Steps.length (fun i s=>s=((u_ g p c.Steps i).map (mv (ln g p)),(i:Int))) _ (fun i s hi hs=>?_) rfl (by omega)
  subst hs
  unfold jM
  refine T.ite (fun h=>?_) (fun h=>?_)
  · have h:=of_decide_eq_true h
    have h:(i:Int)<(c.Steps.length:Int):=h
    have hi':i<c.Steps.length:=by omega
    have hsi:c.Steps[i]?=some c.Steps[i]:=List.getElem?_eq_getElem hi'
    have hle:=G8 g p i
    have hll:((u_ g p c.Steps i).map (mv (ln g p))).length=ln g p i:=by rw [List.length_map,Ei (by omega)]
    have hx:ae .i64 (i:Int) 1=((i + 1:Nat):Int):=bM i (by omega)
    have hfs:mv (ln g p) jB=jB:=rfl
    have gb:∀ x:List ab,x.length≤1→Nat.ble ((((u_ g p c.Steps i).map (mv (ln g p))++x).length + 1) * 72) 140737488355328=true:=fun x hx=>Nat.ble_eq_true_of_le (by rw [List.length_append,hll]; omega)
    have g0:Nat.ble ((((u_ g p c.Steps i).map (mv (ln g p))).length + 1) * 72) 140737488355328=true:=Nat.ble_eq_true_of_le (by rw [hll]; omega)
    have fin:∀ v:List ab,v=(u_ g p c.Steps (i + 1)).map (mv (ln g p))→T (some (.inl (v,ae .i64 (i:Int) 1):(List ab×Int)⊕List ab)) (Rd (fun s'=>i<c.Steps.length∧s'=((u_ g p c.Steps (i + 1)).map (mv (ln g p)),((i + 1:Nat):Int))) (fun t=>t=(u_ g p c.Steps c.Steps.length).map (mv (ln g p)))):=fun v hv =>
      T.next ⟨hi',by rw [hv,hx]⟩
    have jump:∀ {Q:Int→Option ((List ab×Int)⊕List ab)} {R:((List ab×Int)⊕List ab)→Prop},(c.Steps[i].Op=8∨c.Steps[i].Op=9)→T (Q ((ln g p c.Steps[i].To.toNat:Nat):Int)) R→T ((az t2 c.Steps[i].To).bind Q) R:=fun {Q R} hop hq=>by
      obtain ⟨g1,g2⟩:=hto _ (List.getElem_mem hi') hop
      refine T.eqb ?_ hq
      conv=>lhs; rw [show c.Steps[i].To=((c.Steps[i].To.toNat:Nat):Int) by omega,gJ]
      exact ht _ g2
    have hmv:(c.Steps[i].Op=8∨c.Steps[i].Op=9)→mv (ln g p) c.Steps[i]=ab.mk c.Steps[i].Op c.Steps[i].A_ c.Steps[i].B c.Steps[i].C_ c.Steps[i].D c.Steps[i].Imm c.Steps[i].Bin ((ln g p c.Steps[i].To.toNat:Nat):Int) c.Steps[i].Shared:=fun hop=>by
      unfold mv
      rw [if_pos (ko.2 hop)]
    have hmv0:¬ c.Steps[i].Op=8→¬ c.Steps[i].Op=9→mv (ln g p) c.Steps[i]=c.Steps[i]:=fun h8 h9=>by
      unfold mv
      rw [if_neg (fun h=>by rcases ko.1 h with h | h <;> contradiction)]
    have both:∀ w,w=mv (ln g p) c.Steps[i]→p i=true→¬ g i=true→((u_ g p c.Steps i).map (mv (ln g p))++([(ab.mk 7 0 0 0 0 0 0 0 false)]:List ab))++([w]:List ab)=(u_ g p c.Steps (i + 1)).map (mv (ln g p)):=fun w hw e1 e2=>by
      rw [pz hsi,if_pos e1,if_neg e2,hw,List.append_assoc,List.map_append]
      rfl
    have one:∀ w,w=mv (ln g p) c.Steps[i]→¬ p i=true→¬ g i=true→(u_ g p c.Steps i).map (mv (ln g p))++([w]:List ab)=(u_ g p c.Steps (i + 1)).map (mv (ln g p)):=fun w hw e1 e2=>by
      rw [pz hsi,if_neg e1,if_neg e2,hw,List.map_append]
      rfl
    refine T.eqb (hp.get hi') (T.ite (fun e1=>T.grd g0 (T.eqb (hg.get hi') (T.ite (fun e2=>fin _ ?_) (fun e2=>T.get i rfl hi' (T.ite (fun h8=>?_) (fun h8=>T.ite (fun h9=>?_) (fun h9=>?_))))))) (fun e1=>T.eqb (hg.get hi') (T.ite (fun e2=>fin _ ?_) (fun e2=>T.get i rfl hi' (T.ite (fun h8=>?_) (fun h8=>T.ite (fun h9=>?_) (fun h9=>?_)))))))
    · rw [pz hsi,if_pos e1,if_pos e2,List.map_append]
      rfl
    · have hop:c.Steps[i].Op=8∨c.Steps[i].Op=9:=.inl (by simpa using h8)
      exact jump hop (T.grd (gb _ (by simp)) (fin _ (both _ (hmv hop).symm e1 (by simpa using e2))))
    · have hop:c.Steps[i].Op=8∨c.Steps[i].Op=9:=.inr (by simpa using h9)
      exact jump hop (T.grd (gb _ (by simp)) (fin _ (both _ (hmv hop).symm e1 (by simpa using e2))))
    · exact T.grd (gb _ (by simp)) (fin _ (both _ (hmv0 (by simpa using h8) (by simpa using h9)).symm e1 (by simpa using e2)))
    · have e1:¬ p i=true:=by simpa using e1
      show (u_ g p c.Steps i).map (mv (ln g p))=_
      rw [pz hsi,if_neg e1,if_pos e2,List.map_append]
      simp
    · have hop:c.Steps[i].Op=8∨c.Steps[i].Op=9:=.inl (by simpa using h8)
      exact jump hop (T.grd g0 (fin _ (one _ (hmv hop).symm (by simpa using e1) (by simpa using e2))))
    · have hop:c.Steps[i].Op=8∨c.Steps[i].Op=9:=.inr (by simpa using h9)
      exact jump hop (T.grd g0 (fin _ (one _ (hmv hop).symm (by simpa using e1) (by simpa using e2))))
    · exact T.grd g0 (fin _ (one _ (hmv0 (by simpa using h8) (by simpa using h9)).symm (by simpa using e1) (by simpa using e2)))
  · have h:=of_decide_eq_false h
    have h:¬ (i:Int)<(c.Steps.length:Int):=h
    have e:i=c.Steps.length:=by omega
    subst e
    exact T.fin rfl
theorem Aw (n:Nat) (c:aj) (br put:List Bool) (g p:Nat→Bool) (hl:c.Steps.length≤4096) (hn:5000≤n) (hg:Bs br c.Steps.length g) (hp:Bs put c.Steps.length p) (hto:∀ s∈c.Steps,s.Op=8∨s.Op=9→0≤s.To∧s.To.toNat<c.Steps.length) :
    T (jN n c br put) (fun y=>y=aj.mk c.Regs ((u_ g p c.Steps c.Steps.length).map (mv (ln g p)))):=by
  unfold jN
  refine T.grd (by simp [Nat.blt]; omega) ?_
  rw [Int.toNat_natCast]
  refine (Ot n c br put g p hl hn hg hp).bind (fun t2 h2=>(Ou n c br put g p hl hn hg hp t2 h2.2 hto).bind (fun t3 h3=>?_))
  subst h3
  exact T.ret rfl

/-! ### What that is -/
theorem Kx (g:Nat→Bool):∀ i,ln g (fun _=>false) i=j5 g i
  | 0=>rfl
  | i + 1=>by
    have:=Kx g i
    show ln g (fun _=>false) i + 0 + _=j5 g i + _
    rw [this]
    rfl
theorem Ky (g:Nat→Bool) (l:List ab):∀ i,u_ g (fun _=>false) l i=fL g l i
  | 0=>rfl
  | i + 1=>by
    have:=Ky g l i
    show u_ g (fun _=>false) l i++_=fL g l i++_
    rw [this]
    cases l[i]? <;> rfl
theorem t7 (g:Nat→Bool) (l:List ab):(u_ g (fun _=>false) l l.length).map (mv (ln g (fun _=>false)))=c5 g l:=by
  unfold c5
  rw [Ky,show ln g (fun _=>false)=j5 g from funext (Kx g)]
theorem Kz (p:Nat→Bool):∀ i,ln (fun _=>false) p i=ps p i
  | 0=>rfl
  | i + 1=>by
    have:=Kz p i
    show ln (fun _=>false) p i + _ + 1=ps p i + _
    rw [this]
    split <;> rfl
theorem KA (p:Nat→Bool) (l:List ab):∀ i,u_ (fun _=>false) p l i=j4 p l i
  | 0=>rfl
  | i + 1=>by
    have:=KA p l i
    show u_ (fun _=>false) p l i++_=j4 p l i++_
    rw [this]
    cases l[i]? with
    | none=>rfl
    | some s=>cases h:p i <;> rfl
theorem G9 (p:Nat→Bool) (l:List ab):(u_ (fun _=>false) p l l.length).map (mv (ln (fun _=>false) p))=oc p l:=by
  unfold oc
  rw [KA,show ln (fun _=>false) p=ps p from funext (Kz p)]
def fn (l:List ab) (i:Nat):Bool:=match l[i]? with
  | some s=>s.Op==7
  | none=>false
theorem IG {l:List ab} {i:Nat} {s:ab} (h:l[i]?=some s):fn l i=!nf s:=by
  unfold fn
  rw [h]
  exact G2 s
theorem G_ {l:List ab}:∀ {i:Nat},i≤l.length→j5 (fn l) i=rk l i
  | 0,_=>by unfold rk; simp [j5]
  | i + 1,h=>by
    have hs:l[i]?=some (l[i]'(by omega)):=List.getElem?_eq_getElem (by omega)
    rw [nL hs,← G_ (by omega)]
    show j5 (fn l) i + _=_
    rw [IG hs]
    cases nf (l[i]'(by omega)) <;> rfl
theorem Ej {l:List ab}:∀ {i:Nat},i≤l.length→fL (fn l) l i=(l.take i).filter nf
  | 0,_=>rfl
  | i + 1,h=>by
    have hs:l[i]?=some (l[i]'(by omega)):=List.getElem?_eq_getElem (by omega)
    rw [ga hs,Ej (by omega),List.take_succ_eq_append_getElem (by omega),List.filter_append,IG hs,List.filter_cons]
    cases nf (l[i]'(by omega)) <;> rfl
theorem H6 {c:aj} (hr:aK c):c5 (fn c.Steps) c.Steps=aI c.Steps:=by
  unfold c5 aI
  rw [Ej (Nat.le_refl _),List.take_length]
  refine List.map_congr_left (fun s hs=>?_)
  obtain ⟨k,hk⟩:=List.getElem?_of_mem (List.mem_filter.1 hs).1
  by_cases hop:s.Op=8∨s.Op=9
  · obtain ⟨h1,h2⟩:=hr.to hk hop
    unfold mv
    rw [if_pos (ko.2 hop),if_pos (ko.2 hop),G_ (by omega)]
  · unfold mv
    rw [if_neg (fun h=>hop (ko.1 h)),if_neg (fun h=>hop (ko.1 h))]
theorem H7 {c:aj} (hr:aK c):c5 (fun _=>false) c.Steps=c.Steps:=by
  have h1:∀ i,j5 (fun _=>false) i=i:=fun i=>by
    induction i with
    | zero=>rfl
    | succ i ih =>
      show j5 (fun _=>false) i + 1=_
      rw [ih]
  have h2:∀ i,i≤c.Steps.length→fL (fun _=>false) c.Steps i=c.Steps.take i:=fun i=>by
    induction i with
    | zero=>exact fun _=>rfl
    | succ i ih =>
      intro h
      have hs:c.Steps[i]?=some (c.Steps[i]'(by omega)):=List.getElem?_eq_getElem (by omega)
      rw [ga hs,ih (by omega),List.take_succ_eq_append_getElem (by omega)]
      rfl
  unfold c5
  rw [h2 _ (Nat.le_refl _),List.take_length]
  conv=>rhs; rw [← List.map_id c.Steps]
  refine List.map_congr_left (fun s hs=>?_)
  obtain ⟨k,hk⟩:=List.getElem?_of_mem hs
  by_cases hop:s.Op=8∨s.Op=9
  · obtain ⟨h3,h4⟩:=hr.to hk hop
    unfold mv
    rw [if_pos (ko.2 hop),h1,show ((s.To.toNat:Nat):Int)=s.To by omega]
    rfl
  · unfold mv
    rw [if_neg (fun h=>hop (ko.1 h))]
    rfl

end Go.Proofs.Ytaiokpalfdbnnaa
