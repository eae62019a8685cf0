/- The last value at an address is what its last event stored, or the initial one; zeros are left out. Plain law. -/
import Derived.Test.YtcckeabholabcaaL3
import Derived.KernelRfl
namespace Go.Proofs.Ytcckeabholabcaa
open Go A

set_option maxRecDepth 100000 in
theorem ED:m9 1000000=some true:=by kernel_rfl
/-- The cells that are told. -/
theorem FB {m:List (Int×Int)} (h:(m.map (·.1)).Nodup):(nw m).Pairwise fun x y=>x.Addr<y.Addr:=by
  unfold nw
  rw [List.pairwise_map]
  refine List.Pairwise.filter _ ?_
  have hp:=U.isort_perm (m.map (·.1))
  have hs:=U.isort_sorted (m.map (·.1))
  have hnd:(ji (m.map (·.1))).Nodup:=hp.symm.nodup h
  exact (hs.and hnd).imp fun ⟨h1,h2⟩=>by dsimp only; omega
theorem FC {m:List (Int×Int)} {x:Cell} (h:x∈nw m):x.Value≠0∧(dh bB m x.Addr).getD 0=x.Value:=by
  unfold nw at h
  obtain ⟨a,ha,rfl⟩:=List.mem_map.1 h
  have:=(List.mem_filter.1 ha).2
  exact ⟨by simpa using this,rfl⟩
theorem FE {m:List (Int×Int)} {a v:Int} (h:dh bB m a=some v) (hv:v≠0):∃ x∈nw m,x.Addr=a:=by
  unfold nw
  have hp:=U.isort_perm (m.map (·.1))
  refine ⟨Cell.mk a ((dh bB m a).getD 0),List.mem_map.2 ⟨a,List.mem_filter.2 ⟨hp.mem_iff.2 (zX h),?_⟩,rfl⟩,rfl⟩
  rw [h]
  simpa using hv
theorem zY:∀ {m:List (Int×Int)},(m.map (·.1)).Nodup→∀ e∈m,dh bB m e.1=some e.2
  | [],_,e,h=>by cases h
  | x::m,hn,e,h=>by
    rw [List.map_cons,List.nodup_cons] at hn
    unfold dh
    rcases List.mem_cons.1 h with rfl | h
    · rw [if_pos (by unfold bB; simp)]
    · have:¬ bB e.1 x.1=true:=fun e2=>by
        have:=oV e2
        exact hn.1 (List.mem_map.2 ⟨e,h,this⟩)
      rw [if_neg this]
      exact zY hn.2 e h
theorem qI {m:List (Int×Int)} (h:(m.map (·.1)).Nodup) (a v:Int):((eb bB m a v).map (·.1)).Nodup:=by
  rw [pZ]
  split
  · exact h
  · rename_i hn
    rw [List.nodup_append]
    exact ⟨h,by simp,fun x hx y hy=>by rw [List.mem_singleton] at hy; subst hy; intro e; exact hn (e▸hx)⟩
/-- What was told is zero afterwards. -/
structure Zs (m:List (Int×Int)) (l:List Cell) (s:List (Int×Int)):Prop where
  nd:(s.map (·.1)).Nodup
  at_:∀ b:Int,dh bB s b=if b∈l.map (·.Addr) then some 0 else dh bB m b
theorem Zs.put {m s:List (Int×Int)} {l:List Cell} (h:Zs m l s) (x:Cell):Zs m (l++[x]) (eb bB s x.Addr 0):=by
  refine ⟨qI h.nd _ _,fun b=>?_⟩
  rw [uQ,h.at_,List.map_append,List.map_cons,List.map_nil]
  by_cases e:b=x.Addr
  · rw [if_pos e,if_pos (by rw [e]; simp)]
  · rw [if_neg e]
    by_cases c:b∈l.map (·.Addr)
    · rw [if_pos c,if_pos (List.mem_append_left _ c)]
    · rw [if_neg c,if_neg (fun h=>(List.mem_append.1 h).elim c (fun h=>e (List.mem_singleton.1 h)))]
theorem EE {m s:List (Int×Int)} (h:Zs m (nw m) s):EH s=true:=by
  unfold EH
  rw [List.all_eq_true]
  intro e he
  have h1:=zY h.nd e he
  rw [h.at_] at h1
  split at h1
  · rw [← Option.some.inj h1]
    rfl
  · rename_i hn
    by_cases hv:e.2=0
    · simp [hv]
    · obtain ⟨x,hx,ha⟩:=FE h1 hv
      exact absurd (List.mem_map.2 ⟨x,hx,ha⟩) hn
theorem A9 (c:aS):((BS c).map (·.1)).Nodup:=by
  have nd1:∀ (l:List Cell) (s:List (Int×Int)),(s.map (·.1)).Nodup→((l.foldl (fun s x=>eb bB s x.Addr x.Value) s).map (·.1)).Nodup:=by
    intro l
    induction l with
    | nil=>exact fun s h=>h
    | cons x l ih=>exact fun s h=>ih _ (qI h _ _)
  have nd2:∀ (l:List Int) (s:List (Int×Int)),(s.map (·.1)).Nodup→((l.foldl (gm c.Harts.flatten) s).map (·.1)).Nodup:=by
    intro l
    induction l with
    | nil=>exact fun s h=>h
    | cons x l ih =>
      intro s h
      refine ih _ ?_
      unfold gm
      split
      · split
        · exact qI h _ _
        · exact h
      · exact h
  exact nd2 _ _ (nd1 _ _ List.nodup_nil)
theorem EF (n:Nat) (c:aS) (hn:2000≤n) (hl:m9 n=some true) (hw:EC c):T (jx n c) (fun b=>b=true):=by
  unfold jx
  refine T.eqb hl ?_
  refine T.ite (fun d=>by simp at d) (fun _=>?_)
  obtain ⟨b1,e1,p1⟩:=G_ n c 60 (Nat.le_refl _) (by omega)
  refine T.eqb e1 ?_
  refine T.ite (fun _=>T.ret rfl) (fun d1=>?_)
  have hc:=(p1 (uN d1)).1
  obtain ⟨r,r1,r2⟩:=He n c hc (by omega)
  refine T.eqb r1 ?_
  refine T.ite (fun _=>T.ret rfl) (fun d2=>?_)
  have hr0:r=0:=uO d2
  subst hr0
  have ok:=r2 rfl
  have hall:=hc.all
  have hfi:=hc.first
  have hor:=hc.order
  have ck:=uR n c hc (by omega) ok
  refine T.bind (P:=fun t=>t=.inl (c.First.foldl (fun s x=>eb bB s x.Addr x.Value) [])) ?_ ?_
  · refine T.loop c.First.length (fun i s=>s=((c.First.take i).foldl (fun s x=>eb bB s x.Addr x.Value) [],(i:Int))) _ ?_ rfl (by omega)
    rintro i s hi rfl
    unfold gw
    refine T.ite (fun cd=>?_) (fun cd=>T.fin (by dsimp only; rw [List.take_of_length_le (gu cd)]))
    have hil:i<c.First.length:=gW cd
    refine T.get i rfl hil ?_
    obtain ⟨v,v1,v2⟩:=Et n c.First c.First[i].Addr ok.cells (by omega) (by omega)
    have ev:v=c.First[i].Value:=A7 ok.cells v2 (.inl ⟨i,hil,rfl,rfl⟩)
    have f1:lk n c c.First[i].Addr=some v:=by
      unfold lk
      rw [ck,Option.bind_some,if_neg (by simp),v1,Option.bind_some]
    refine T.eqb f1 ?_
    refine T.ite (fun d=>by rw [ev] at d; simp at d) (fun _=>?_)
    refine T.ret ⟨hil,?_⟩
    dsimp only
    rw [pY (by omega),List.take_add_one,List.getElem?_eq_getElem hil,List.foldl_append]
    rfl
  rintro _ rfl
  dsimp only
  refine T.eqb (Km n c hc (by omega) ck) ?_
  refine T.bind (P:=fun t=>t=.inl (BS c)) ?_ ?_
  · refine T.loop c.Order.length (fun i s=>s=((c.Order.take i).foldl (gm c.Harts.flatten) (c.First.foldl (fun s x=>eb bB s x.Addr x.Value) []),(i:Int))) _ ?_ rfl (by omega)
    rintro i s hi rfl
    unfold gx
    refine T.ite (fun cd=>?_) (fun cd=>T.fin (by dsimp only; rw [List.take_of_length_le (gu cd)]; rfl))
    have hil:i<c.Order.length:=gW cd
    obtain ⟨j,hj,ej,_⟩:=ok.ord i hil
    refine T.get i rfl hil ?_
    rw [ej]
    refine T.ite (fun d=>by have:=of_decide_eq_true d; omega) (fun _=>?_)
    refine T.ite (fun d=>by have:=of_decide_eq_true d; omega) (fun _=>?_)
    refine T.get j rfl hj ?_
    refine T.eqb (Fu n _) ?_
    have estep:(c.Order.take (i + 1)).foldl (gm c.Harts.flatten) (c.First.foldl (fun s x=>eb bB s x.Addr x.Value) [])=gm c.Harts.flatten ((c.Order.take i).foldl (gm c.Harts.flatten) (c.First.foldl (fun s x=>eb bB s x.Addr x.Value) [])) (j:Int):=by
      rw [List.take_add_one,List.getElem?_eq_getElem hil,List.foldl_append,ej]
      rfl
    have egm:∀ s,gm c.Harts.flatten s (j:Int)=if Fs c.Harts.flatten[j].Kind=true then eb bB s c.Harts.flatten[j].Addr c.Harts.flatten[j].Store else s:=fun s=>by
      unfold gm
      rw [Hb hj]
    refine T.ite (fun d=>?_) (fun d=>?_)
    · refine T.ret ⟨hil,?_⟩
      dsimp only
      rw [pY (by omega),estep,egm,if_pos d]
    · refine T.ret ⟨hil,?_⟩
      dsimp only
      rw [pY (by omega),estep,egm,if_neg (by rw [d]; simp)]
  rintro _ rfl
  dsimp only
  obtain ⟨l1,l2⟩:=H8 n c hc ok hw hn
  refine T.eqb l1 ?_
  have nd:=A9 c
  have asc:=FB nd
  have key:T (iter (fun s=>e8 n (nw (BS c)) s) n (BS c,0)) (fun t=>∃ s,t=.inl s∧Zs (BS c) (nw (BS c)) s):=by
    have hval:=fun x (h:x∈nw (BS c))=>FC h
    generalize nw (BS c)=y at l2 asc hval
    refine T.loop y.length (fun i s=>s.2=(i:Int)∧Zs (BS c) (y.take i) s.1) _ ?_ ⟨rfl,nd,fun b=>by simp⟩ (by omega)
    rintro i ⟨s,s2⟩ hi ⟨e,hz⟩
    dsimp only at e hz
    subst e
    unfold e8
    refine T.ite (fun cd=>?_) (fun cd=>T.fin ⟨s,rfl,by rw [List.take_of_length_le (gu cd)] at hz; exact hz⟩)
    have hil:i<y.length:=gW cd
    refine T.get i rfl hil ?_
    obtain ⟨hv0,hv⟩:=hval y[i] (List.getElem_mem hil)
    have hlt:∀ j (h:j<i),(y[j]'(by omega)).Addr<y[i].Addr:=fun j h=>List.pairwise_iff_getElem.1 asc j i (by omega) hil h
    have hnot:y[i].Addr ∉ (y.take i).map (·.Addr):=fun h=>by
      obtain ⟨x,hx,ex⟩:=List.mem_map.1 h
      obtain ⟨j,hj,rfl⟩:=List.getElem_of_mem hx
      rw [List.length_take] at hj
      rw [List.getElem_take] at ex
      have:=hlt j (by omega)
      omega
    have hg:dh bB s y[i].Addr=dh bB (BS c) y[i].Addr:=by rw [hz.at_,if_neg hnot]
    have hput:Zs (BS c) (y.take (i + 1)) (eb bB s y[i].Addr 0):=by
      rw [List.take_add_one,List.getElem?_eq_getElem hil]
      exact hz.put y[i]
    dsimp only
    refine T.ite (fun d=>absurd (eq_of_beq d) hv0) (fun _=>?_)
    refine T.ite (fun d=>?_) (fun _=>?_)
    · have d:=of_decide_eq_true d
      refine T.get (i - 1) (by rw [BN _ (by omega) (by omega)]) (by omega) ?_
      refine T.ite (fun d2=>?_) (fun _=>?_)
      · have d2:=of_decide_eq_true d2
        have:=hlt (i - 1) (by omega)
        omega
      · refine T.ite (fun d3=>by rw [hg,hv] at d3; simp at d3) (fun _=>?_)
        exact T.ret ⟨hil,pY (by omega),hput⟩
    · refine T.ite (fun d3=>by rw [hg,hv] at d3; simp at d3) (fun _=>?_)
      exact T.ret ⟨hil,pY (by omega),hput⟩
  refine T.bind key ?_
  rintro _ ⟨s,rfl,hz⟩
  dsimp only
  unfold e9
  rw [EE hz]
  exact T.ret rfl
theorem CY (c:aS) (hc:aS.wf c):jx 1000000 c=some true:=by
  obtain ⟨b,h1,h2⟩:=EF 1000000 c (by omega) ED ⟨fun x hx=>(hc.1.2 x hx).1,fun e he=>by
    obtain ⟨l,hl,hel⟩:=List.mem_flatten.1 he
    exact ((hc.2.1.2 l hl).2 e hel).2.2.2.1⟩
  rw [h1,h2]
end Go.Proofs.Ytcckeabholabcaa
