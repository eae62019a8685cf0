/- The judgement, and what should be read, are the document's. Plain facts, on lists and numbers; nothing is claimed of the program here. -/
import Derived.Test.YtomahedcdcnnhaaGreatDoorX2
import Derived.KernelRfl
namespace Go.Proofs.YtomahedcdcnnhaaGreatDoor
open Go A

theorem EO {n:Nat} {c:af} (hr:bz n c) {w w':List (Int×List Int)} {pl pl':List Int} (h:gE c w pl) (h':gE c w' pl'):pl=pl':=by
  apply List.ext_getElem
  · rw [h.len,h'.len]
  · intro k hk hk'
    rcases h.plc k hk with ⟨e,hno⟩ | ⟨a,ha,h1,h2,h3⟩
    · rcases h'.plc k hk' with ⟨e',_⟩ | ⟨a',ha',h1',h2',_⟩
      · rw [e,e']
      · exact absurd h2' (hno a' h1' ha')
    · rcases h'.plc k hk' with ⟨_,hno⟩ | ⟨a',ha',h1',h2',h3'⟩
      · exact absurd h2 (hno a h1 ha)
      · have:a=a':=by
          rcases Nat.lt_trichotomy a a' with hlt | heq | hlt
          · exact absurd (h2.trans h2'.symm) (hr.dist a a' ha ha' hlt)
          · exact heq
          · exact absurd (h2'.trans h2.symm) (hr.dist a' a ha' ha hlt)
        rw [h3,h3',this]
theorem EP (n:Nat) (c:af) (hc:bP c) (hr:bz n c) (hn:200≤n):T (jH n c) (fun l=>l.length=c.Harts.flatten.length∧sB c l c.Order.length):=by
  have hf:=hc.all
  have hor:=hc.order
  unfold jH
  refine T.eqb (J3 n c hc hn hr) ?_
  refine T.ite (fun d=>by simp at d) (fun _=>?_)
  rw [hr.fromLen]
  refine T.grd (by simp [-List.length_flatten]; omega) ?_
  rw [Int.toNat_natCast]
  refine T.bind (P:=fun l=>l=List.replicate c.Harts.flatten.length (-1)) ?_ (fun l hl=>?_)
  · refine T.loop c.Harts.flatten.length (fun i s=>s=(List.replicate i (-1)++List.replicate (c.Harts.flatten.length - i) 0,(i:Int))) _ ?_ (by simp) (by omega)
    rintro i s hi rfl
    unfold jY
    dsimp only
    have hlen:(List.replicate i (-1:Int)++List.replicate (c.Harts.flatten.length - i) 0).length=c.Harts.flatten.length:=by
      simp only [List.length_append,List.length_replicate]
      omega
    rw [hlen]
    refine T.ite (fun cd=>?_) (fun cd=>?_)
    · have hil:=aY cd
      refine T.get i rfl (by rw [hlen]; exact hil) ?_
      refine T.ret ⟨hil,?_⟩
      rw [av _ (by omega),Int.toNat_natCast]
      congr 1
      apply List.ext_getElem
      · simp only [List.length_set,List.length_append,List.length_replicate]
        omega
      · intro k h1 h2
        rw [List.getElem_set]
        split
        · rename_i e
          subst e
          rw [List.getElem_append_left (by simp)]
          simp
        · rename_i e
          by_cases hk:k<i
          · rw [List.getElem_append_left (by simpa using hk),List.getElem_append_left (by simp; omega)]
            simp
          · rw [List.getElem_append_right (by simp; omega),List.getElem_append_right (by simp; omega)]
            simp
    · have:=bv cd
      have e:i=c.Harts.flatten.length:=by omega
      subst e
      exact T.fin (by simp)
  · subst hl
    refine T.bind (P:=fun l=>l.length=c.Harts.flatten.length∧sB c l c.Order.length) ?_ (fun l hl=>T.ret hl)
    refine T.loop c.Order.length (fun i s=>s.2=(i:Int)∧s.1.length=c.Harts.flatten.length∧sB c s.1 i) _ ?_ ⟨rfl,by simp,fun k hk=>.inl ⟨by simp,fun a h=>by omega⟩⟩ (by omega)
    rintro i ⟨s1,s2⟩ hi ⟨e1,e2,hq⟩
    dsimp only at e1 e2 hq
    subst e1
    unfold jZ
    refine T.ite (fun cd=>?_) (fun cd=>?_)
    · have hil:=aY cd
      obtain ⟨j,hj,hoj,_⟩:=hr.ord i hil
      refine T.get i rfl hil ?_
      refine T.get j hoj (by dsimp only; omega) ?_
      refine T.ret ⟨hil,av _ (by omega),by dsimp only; rw [List.length_set]; exact e2,fun k hk=>?_⟩
      dsimp only at hk ⊢
      rw [Dp hoj hk (by rw [List.length_set] at hk; exact hk)]
      by_cases e:j=k
      · subst e
        rw [if_pos rfl]
        exact .inr ⟨i,hil,by omega,hoj,rfl⟩
      · rw [if_neg e]
        rcases hq k (by rw [List.length_set] at hk; exact hk) with ⟨h1,h2⟩ | ⟨a,ha,h1,h2,h3⟩
        · refine .inl ⟨h1,fun a hai ha=>?_⟩
          by_cases e3:a=i
          · subst e3; rw [hoj]; omega
          · exact h2 a (by omega) ha
        · exact .inr ⟨a,ha,by omega,h2,h3⟩
    · have:=bv cd
      have e:i=c.Order.length:=by omega
      subst e
      exact T.fin ⟨e2,hq⟩


theorem FI:∀ (l m:List (bJ Int)),l.Pairwise lx→m.Pairwise lx→(∀ p,p∈l↔p∈m)→l=m
  | [],[],_,_,_=>rfl
  | [],y::m,_,_,h=>by have:=(h y).2 (by simp); simp at this
  | x::l,[],_,_,h=>by have:=(h x).1 (by simp); simp at this
  | x::l,y::m,h1,h2,h=>by
    rw [List.pairwise_cons] at h1 h2
    have irr:∀ p:bJ Int,¬ lx p p:=fun p h=>by unfold lx at h; omega
    have asy:∀ p q:bJ Int,lx p q→¬ lx q p:=fun p q h g=>by unfold lx at h g; omega
    have e:x=y:=by
      rcases List.mem_cons.1 ((h x).1 (by simp)) with e | e
      · exact e
      · rcases List.mem_cons.1 ((h y).2 (by simp)) with f | f
        · exact f.symm
        · exact absurd (h1.1 y f) (asy _ _ (h2.1 x e))
    subst e
    rw [FI l m h1.2 h2.2 (fun p=>⟨fun hp=>?_,fun hp=>?_⟩)]
    · rcases List.mem_cons.1 ((h p).1 (List.mem_cons_of_mem _ hp)) with e | e
      · subst e; exact absurd (h1.1 p hp) (irr p)
      · exact e
    · rcases List.mem_cons.1 ((h p).2 (List.mem_cons_of_mem _ hp)) with e | e
      · subst e; exact absurd (h2.1 p hp) (irr p)
      · exact e
theorem PQ.uniq {n N:Nat} {v:ai} {l m:List (bJ Int)} (h:PQ n N v N 0 l) (k:PQ n N v N 0 m):l=m:=by
  refine FI l m h.ord k.ord (fun p=>⟨fun hp=>?_,fun hp=>?_⟩)
  · obtain ⟨x,y,rfl,hx,hy,hr,hb⟩:=h.el p hp
    exact k.all x y hx hy hr hb
  · obtain ⟨x,y,rfl,hx,hy,hr,hb⟩:=k.el p hp
    exact h.all x y hx hy hr hb
theorem Qs (n:Nat) (c:af) (h1:∃ r,eE n c=some r∧r≠0) (h2:∃ s,bU n c=some s∧s≠0):jC n c=some none∧mR n c=some (ab.mk c [],false):=by
  obtain ⟨r,h1,h3⟩:=h1
  obtain ⟨s,h2,h4⟩:=h2
  constructor
  · unfold jC
    rw [h2]
    simp only [Option.bind_some]
    rw [if_pos (by simpa using h4)]
  · unfold mR sG
    rw [h1]
    simp only [Option.bind_some]
    rw [if_pos (by simpa using h3)]
    simp only [Option.bind_some]
    have:(r==0)=false:=by simpa using h3
    rw [this]

theorem Dw {α:Type} (l:List α) {i:Int} (h:¬ 0≤i):ak l i=none:=by
  unfold ak
  rw [if_neg h]
/-! ### The source -/
def pu (c:af) (pl:List Int) (k j:Nat) (hk:k<c.Harts.flatten.length):Prop:=∃ hj:j<c.Harts.flatten.length,j≠k∧kF c.Harts.flatten[j].Kind=true∧c.Harts.flatten[j].Addr=c.Harts.flatten[k].Addr∧(l9 pl (j:Int)<l9 pl (k:Int)∨(c.Harts.flatten[j].Hart=c.Harts.flatten[k].Hart∧c.Harts.flatten[j].At<c.Harts.flatten[k].At))
def nI (c:af) (pl:List Int) (k:Nat) (hk:k<c.Harts.flatten.length) (i:Nat) (b:Int):Prop :=
  (b=-1∧∀ j,j<i→¬ pu c pl k j hk)∨∃ q:Nat,q<i∧b=(q:Int)∧pu c pl k q hk∧∀ j,j<i→pu c pl k j hk→l9 pl (j:Int)≤l9 pl (q:Int)
theorem nI.keep {c:af} {pl:List Int} {k:Nat} {hk:k<c.Harts.flatten.length} {i:Nat} {b:Int} (h:nI c pl k hk i b) (hn:pu c pl k i hk→∃ q:Nat,b=(q:Int)∧l9 pl (i:Int)≤l9 pl (q:Int)):nI c pl k hk (i + 1) b:=by
  rcases h with ⟨e,h⟩ | ⟨q,hq,e,hc,h⟩
  · refine .inl ⟨e,fun j hj hc=>?_⟩
    by_cases ej:j=i
    · subst ej
      obtain ⟨q,e2,_⟩:=hn hc
      omega
    · exact h j (by omega) hc
  · refine .inr ⟨q,by omega,e,hc,fun j hj hcj=>?_⟩
    by_cases ej:j=i
    · subst ej
      obtain ⟨q',e2,h2⟩:=hn hcj
      have:q'=q:=by omega
      subst this
      exact h2
    · exact h j (by omega) hcj
theorem nI.set {c:af} {pl:List Int} {k:Nat} {hk:k<c.Harts.flatten.length} {i:Nat} {b:Int} (h:nI c pl k hk i b) (hc:pu c pl k i hk) (hn:b<0∨l9 pl b≤l9 pl (i:Int)):nI c pl k hk (i + 1) (i:Int):=by
  refine .inr ⟨i,by omega,rfl,hc,fun j hj hcj=>?_⟩
  by_cases ej:j=i
  · rw [ej]
    exact Int.le_refl _
  · rcases h with ⟨_,h⟩ | ⟨q,hq,e,_,h⟩
    · exact absurd hcj (h j (by omega))
    · have:=h j (by omega) hcj
      rw [e] at hn
      rcases hn with hn | hn
      · omega
      · exact Int.le_trans this hn
theorem MY {n:Nat} {c:af} (hr:bz n c) {w:List (Int×List Int)} {pl:List Int} (ct:gE c w pl) {a x:Int} (h:x∈WL c a):0≤l9 pl x:=by
  obtain ⟨i,hi,e⟩:=List.mem_iff_getElem.1 (List.mem_filter.1 h).1
  rw [← e,qw hr ct i hi]
  omega
theorem Ln {n:Nat} {c:af} (hr:bz n c) {w:List (Int×List Int)} {pl:List Int} (ct:gE c w pl) {a b x y:Int} (h:x∈WL c a) (h2:y∈WL c b) (e:l9 pl x=l9 pl y):x=y:=by
  obtain ⟨i,hi,ei⟩:=List.mem_iff_getElem.1 (List.mem_filter.1 h).1
  obtain ⟨j,hj,ej⟩:=List.mem_iff_getElem.1 (List.mem_filter.1 h2).1
  rw [← ei,← ej,qw hr ct i hi,qw hr ct j hj] at e
  have:i=j:=by omega
  subst this
  rw [← ei,← ej]
theorem IE {n:Nat} {c:af} (hr:bz n c) {w:List (Int×List Int)} {pl:List Int} (ct:gE c w pl) (k:Nat) (hk:k<c.Harts.flatten.length) {b:Int} (h:nI c pl k hk c.Harts.flatten.length b):b=yH c pl k hk:=by
  have toW:∀ j,pu c pl k j hk→(j:Int)∈WL c c.Harts.flatten[k].Addr∧g9 c.Harts.flatten pl (k:Int) (j:Int)=true:=by
    rintro j ⟨hj,h1,h2,h3,h4⟩
    exact ⟨MN hr j hj h2 _ h3,(AF ct k j hk hj).2 ⟨h1,h4⟩⟩
  have fromW:∀ x:Int,x∈WL c c.Harts.flatten[k].Addr→g9 c.Harts.flatten pl (k:Int) x=true→∃ j:Nat,x=(j:Int)∧pu c pl k j hk:=by
    intro x h1 h2
    obtain ⟨j,hj,rfl,h3,h4⟩:=Ll h1
    obtain ⟨h5,h6⟩:=(AF ct k j hk hj).1 h2
    exact ⟨j,rfl,hj,h5,h3,h4,h6⟩
  rcases h with ⟨rfl,h⟩ | ⟨q,hq,rfl,hcq,h⟩
  · by_cases e:yH c pl k hk=-1
    · exact e.symm
    · obtain ⟨h1,h2⟩:=Iy (hk:=hk) rfl e
      obtain ⟨j,_,hj⟩:=fromW _ h1 h2
      exact absurd hj (h j hj.1)
  · obtain ⟨h1,h2⟩:=toW q hcq
    have h3:=Lj hr ct k hk _ h1 h2
    have h4:=MY hr ct h1
    by_cases e:yH c pl k hk=-1
    · rw [e,Li] at h3
      omega
    · obtain ⟨h5,h6⟩:=Iy (hk:=hk) rfl e
      obtain ⟨j,ej,hj⟩:=fromW _ h5 h6
      have h7:=h j hj.1 hj
      rw [← ej] at h7
      exact Ln hr ct h1 h5 (by omega)
theorem yB (n:Nat) (c:af) (hc:bP c) (hr:bz n c) (hn:200≤n) {w:List (Int×List Int)} {pl:List Int} (ct:gE c w pl) (k:Nat) (hk:k<c.Harts.flatten.length) :
    jI n (VV c) pl (k:Int)=some (yH c pl k hk):=by
  have hf:=hc.all
  have hpl:=ct.len
  have key:T (jI n (VV c) pl (k:Int)) (fun r=>r=yH c pl k hk):=by
    unfold jI
    refine T.get (l:=c.Harts.flatten) k rfl hk ?_
    refine T.bind (P:=fun t=>t=yH c pl k hk) ?_ (fun t ht=>T.ret ht)
    refine T.loop c.Harts.flatten.length (fun i s=>s.2=(i:Int)∧nI c pl k hk i s.1) _ ?_ ⟨rfl,.inl ⟨rfl,fun j hj=>by omega⟩⟩ (by omega)
    rintro i ⟨b,s2⟩ hi ⟨e,hb⟩
    dsimp only at e hb
    subst e
    unfold j0
    dsimp only
    refine T.ite (fun cd=>?_) (fun cd=>?_)
    · have hil:i<c.Harts.flatten.length:=aY cd
      have hip:i<pl.length:=by omega
      have hkp:k<pl.length:=by omega
      have ei:=l8 hip
      have ek:=l8 hkp
      have keep:(pu c pl k i hk→∃ q:Nat,b=(q:Int)∧l9 pl (i:Int)≤l9 pl (q:Int))→i<c.Harts.flatten.length∧(ac .i64 (i:Int) 1=((i + 1:Nat):Int)∧nI c pl k hk (i + 1) b):=fun h=>⟨hil,av _ (by omega),hb.keep h⟩
      have set:pu c pl k i hk→(b<0∨l9 pl b≤l9 pl (i:Int))→i<c.Harts.flatten.length∧(ac .i64 (i:Int) 1=((i + 1:Nat):Int)∧nI c pl k hk (i + 1) (i:Int)):=fun h h2=>⟨hil,av _ (by omega),hb.set h h2⟩
      -- a candidate against the best one
      have cmp:pu c pl k i hk→¬ b<0→∃ q:Nat,∃ hq:q<pl.length,b=(q:Int)∧l9 pl b=pl[q]:=fun _ hnb=>by
        rcases hb with ⟨e,_⟩ | ⟨q,hq,e,_,_⟩
        · omega
        · exact ⟨q,by omega,e,by rw [e]; exact l8 (by omega)⟩
      refine T.get (l:=c.Harts.flatten) i rfl hil ?_
      refine T.ite (fun d=>T.ret (keep (fun ⟨_,h,_⟩=>absurd (show (i:Int)=(k:Int) by simpa using d) (by omega)))) (fun d1=>?_)
      have d1:i≠k:=by
        have:¬ ((i:Int)=(k:Int)):=by simpa using d1
        omega
      refine T.eqb (fU _ _) ?_
      refine T.ite (fun d=>T.ret (keep (fun ⟨_,_,h,_⟩=>by rw [h] at d; cases d))) (fun d2=>?_)
      have d2:kF c.Harts.flatten[i].Kind=true:=jm d2
      refine T.ite (fun d=>T.ret (keep (fun ⟨_,_,_,h,_⟩=>by rw [h] at d; simp at d))) (fun d3=>?_)
      have d3:c.Harts.flatten[i].Addr=c.Harts.flatten[k].Addr:=by simpa using d3
      -- it may be read from
      have fin1:pu c pl k i hk→T (if decide (b<0)=true then some (Sum.inl ((i:Int),ac .i64 (i:Int) 1)) else (ak pl b).bind fun x=>(ak pl (i:Int)).bind fun y=>if decide (x<y)=true then some (Sum.inl ((i:Int),ac .i64 (i:Int) 1)) else some (Sum.inl (b,ac .i64 (i:Int) 1))) (Rd (fun s':Int×Int=>i<c.Harts.flatten.length∧(s'.2=((i + 1:Nat):Int)∧nI c pl k hk (i + 1) s'.1)) (fun t=>t=yH c pl k hk)):=fun hcand=>by
        refine T.ite (fun d=>T.ret (set hcand (.inl (of_decide_eq_true d)))) (fun d=>?_)
        obtain ⟨q,hq,eb,ep⟩:=cmp hcand (of_decide_eq_false d)
        refine T.get q eb hq ?_
        refine T.get i rfl hip ?_
        refine T.ite (fun d=>T.ret (set hcand (.inr (by have:=of_decide_eq_true d; omega)))) (fun d=>T.ret (keep (fun _=>⟨q,eb,by rw [← eb]; have:=of_decide_eq_false d; omega⟩)))
      have fin2:pu c pl k i hk→T (if decide (b<0)=true then some (Sum.inl ((i:Int),ac .i64 (i:Int) 1)) else (ak pl b).bind fun x=>if decide (x<pl[i])=true then some (Sum.inl ((i:Int),ac .i64 (i:Int) 1)) else some (Sum.inl (b,ac .i64 (i:Int) 1))) (Rd (fun s':Int×Int=>i<c.Harts.flatten.length∧(s'.2=((i + 1:Nat):Int)∧nI c pl k hk (i + 1) s'.1)) (fun t=>t=yH c pl k hk)):=fun hcand=>by
        refine T.ite (fun d=>T.ret (set hcand (.inl (of_decide_eq_true d)))) (fun d=>?_)
        obtain ⟨q,hq,eb,ep⟩:=cmp hcand (of_decide_eq_false d)
        refine T.get q eb hq ?_
        refine T.ite (fun d=>T.ret (set hcand (.inr (by have:=of_decide_eq_true d; omega)))) (fun d=>T.ret (keep (fun _=>⟨q,eb,by rw [← eb]; have:=of_decide_eq_false d; omega⟩)))
      have late:¬ (c.Harts.flatten[i].Hart=c.Harts.flatten[k].Hart∧c.Harts.flatten[i].At<c.Harts.flatten[k].At)→∀ d:decide (pl[i]<pl[k])=false,i<c.Harts.flatten.length∧(ac .i64 (i:Int) 1=((i + 1:Nat):Int)∧nI c pl k hk (i + 1) b):=fun h1 d=>keep (fun ⟨_,_,_,_,h⟩=>by
        have:=of_decide_eq_false d
        rcases h with h | h
        · omega
        · exact absurd h h1)
      refine T.ite (fun d4=>?_) (fun d4=>?_)
      · have d4:c.Harts.flatten[i].Hart=c.Harts.flatten[k].Hart:=by simpa using d4
        refine T.ite (fun d5=>?_) (fun d5=>?_)
        · exact fin1 ⟨hil,d1,d2,d3,.inr ⟨d4,of_decide_eq_true d5⟩⟩
        · refine T.get i rfl hip ?_
          refine T.get k rfl hkp ?_
          refine T.ite (fun d6=>fin2 ⟨hil,d1,d2,d3,.inl (by have:=of_decide_eq_true d6; omega)⟩) (fun d6=>T.ret (late (fun h=>of_decide_eq_false d5 h.2) d6))
      · have d4:¬ c.Harts.flatten[i].Hart=c.Harts.flatten[k].Hart:=by simpa using d4
        refine T.get i rfl hip ?_
        refine T.get k rfl hkp ?_
        refine T.ite (fun d6=>fin2 ⟨hil,d1,d2,d3,.inl (by have:=of_decide_eq_true d6; omega)⟩) (fun d6=>T.ret (late (fun h=>d4 h.1) d6))
    · have hge:=bv cd
      have:i=c.Harts.flatten.length:=by
        have h2:¬ (i<c.Harts.flatten.length):=by
          intro h
          have:=of_decide_eq_false cd
          exact this (by show (i:Int)<((c.Harts.flatten.length:Nat):Int); omega)
        omega
      subst this
      exact T.fin (IE hr ct k hk hb)
  obtain ⟨r,h1,h2⟩:=key
  rw [h1,h2]


/-! ### The axioms, one by one: the same steps -/
theorem Lo (n:Nat) (c:af) (hc:bP c) (hr:bz n c) (hn:200≤n) {w:List (Int×List Int)} {pl:List Int} (ct:gE c w pl) (sa:Int) :
    bw n c.First c.Harts c.From c.Order w c.Harts.flatten pl sa=dD n c (VV c,true) pl sa:=by
  unfold bw dD
  show (if decide (sa<(c.Harts.flatten.length:Int))=true then _ else _)=(if decide (sa<(c.Harts.flatten.length:Int))=true then (ak c.Harts.flatten sa).bind _ else _)
  by_cases h:decide (sa<(c.Harts.flatten.length:Int))=true
  · rw [if_pos h,if_pos h]
    by_cases h0:0≤sa
    · have h:=of_decide_eq_true h
      obtain ⟨k,rfl⟩:∃ k:Nat,sa=(k:Int):=⟨sa.toNat,by omega⟩
      have hk:k<c.Harts.flatten.length:=by omega
      rw [aS rfl hk]
      simp only [Option.bind_some]
      rw [e_,jl]
      simp only [Option.bind_some]
      rw [BZ n c hc hr hn ct k hk,yB n c hc hr hn ct k hk]
      rfl
    · rw [Dw _ h0]
      rfl
  · rw [if_neg h,if_neg h]
theorem Lp (n:Nat) (c:af) (w:List (Int×List Int)) (pl:List Int) (ps:List (bJ Int)) (sa:Int) :
    bR n c.First c.Harts c.From c.Order w c.Harts.flatten pl ps sa=eU n c (VV c,true) pl ps sa:=rfl

/-! ### Pairs -/
def vE (c:af) (pl:List Int) (k:Nat) (fr:Int) (h:Int) (x:Int):Bool:=decide (fr<l9 pl x)&&decide (l9 pl x<l9 pl (k:Int))&&(((ak c.Harts.flatten x).map fun e=>e.Hart != h).getD false)
def qS (c:af) (pl:List Int) (k:Nat) (hk:k<c.Harts.flatten.length) (fr:Int):Option Int:=(WL c c.Harts.flatten[k].Addr).find? (vE c pl k fr c.Harts.flatten[k].Hart)
theorem Sv (n:Nat) (c:af) (hc:bP c) (hr:bz n c) (hn:200≤n) {w:List (Int×List Int)} {pl:List Int} (ct:gE c w pl) (k:Nat) (hk:k<c.Harts.flatten.length) (lr fr:Int) :
    iter (fun s=>az n c.First c.Harts c.From c.Order w c.Harts.flatten pl c.Harts.flatten[k] s) n ((k:Int),(k:Int),lr,fr,WL c c.Harts.flatten[k].Addr,((WL c c.Harts.flatten[k].Addr).length:Int),0) =
      some (match qS c pl k hk fr with | none=>.inl (k:Int) | some x=>.inr (false,4,lr,x)):=by
  have hl:=EK hc c.Harts.flatten[k].Addr
  have hv:=BY hr c.Harts.flatten[k].Addr
  have hpl:=ct.len
  unfold qS
  revert hl hv
  generalize WL c c.Harts.flatten[k].Addr=l
  intro hl hv
  have key:T (iter (fun s=>az n c.First c.Harts c.From c.Order w c.Harts.flatten pl c.Harts.flatten[k] s) n ((k:Int),(k:Int),lr,fr,l,(l.length:Int),0)) (fun t=>t=(match l.find? (vE c pl k fr c.Harts.flatten[k].Hart) with | none=>.inl (k:Int) | some x=>.inr (false,4,lr,x))):=by
    refine T.loop l.length (fun i s=>s=((k:Int),(k:Int),lr,fr,l,(l.length:Int),(i:Int))∧∀ x∈l.take i,vE c pl k fr c.Harts.flatten[k].Hart x=false) _ ?_ ⟨rfl,fun x hx=>by simp at hx⟩ (by omega)
    rintro i s hi ⟨rfl,hq⟩
    unfold az
    dsimp only
    refine T.ite (fun cd=>?_) (fun cd=>?_)
    · have hil:=aY cd
      obtain ⟨j,hj,hxj⟩:=hv _ (List.getElem_mem hil)
      have hjp:j<pl.length:=by omega
      have hkp:k<pl.length:=by omega
      have ej:l9 pl l[i]=pl[j]:=by rw [hxj]; exact l8 hjp
      have ek:=l8 hkp
      have gj:=aS hxj hj
      have nxt:vE c pl k fr c.Harts.flatten[k].Hart l[i]=false→i<l.length∧(((k:Int),(k:Int),lr,fr,l,(l.length:Int),ac .i64 (i:Int) 1)=((k:Int),(k:Int),lr,fr,l,(l.length:Int),((i + 1:Nat):Int))∧∀ x∈l.take (i + 1),vE c pl k fr c.Harts.flatten[k].Hart x=false):=fun hno=>by
        refine ⟨hil,by rw [av _ (by omega)],fun x hx=>?_⟩
        rw [List.take_succ_eq_append_getElem hil] at hx
        rcases List.mem_append.1 hx with h | h
        · exact hq x h
        · rw [List.mem_singleton.1 h]
          exact hno
      refine T.get i rfl hil ?_
      refine T.get j hxj hjp ?_
      refine T.ite (fun d1=>?_) (fun d1=>T.ret (nxt (by have:=of_decide_eq_false d1; unfold vE; rw [show decide (fr<l9 pl l[i])=false from decide_eq_false (by omega)]; rfl)))
      refine T.get k rfl hkp ?_
      refine T.ite (fun d2=>?_) (fun d2=>T.ret (nxt (by have:=of_decide_eq_false d2; unfold vE; rw [show decide (l9 pl l[i]<l9 pl (k:Int))=false from decide_eq_false (by omega)]; rw [Bool.and_false]; rfl)))
      refine T.get j hxj hj ?_
      refine T.ite (fun d3=>?_) (fun d3=>T.ret (nxt (by unfold vE; rw [gj]; show (_&&(c.Harts.flatten[j].Hart != c.Harts.flatten[k].Hart))=false; rw [d3,Bool.and_false])))
      refine T.eqb (show eC n 4 _ _=some _ from rfl) ?_
      refine T.fin ?_
      have hp:vE c pl k fr c.Harts.flatten[k].Hart l[i]=true:=by
        unfold vE
        rw [gj]
        show (_&&(c.Harts.flatten[j].Hart != c.Harts.flatten[k].Hart))=true
        rw [d3,Bool.and_true,Bool.and_eq_true]
        have d1:=of_decide_eq_true d1
        have d2:=of_decide_eq_true d2
        exact ⟨decide_eq_true (by omega),decide_eq_true (by omega)⟩
      have hf:l.find? (vE c pl k fr c.Harts.flatten[k].Hart)=some l[i]:=by
        rw [List.find?_eq_some_iff_append]
        refine ⟨hp,l.take i,l.drop (i + 1),?_,fun x hx=>by rw [hq x hx]; rfl⟩
        rw [← List.drop_eq_getElem_cons,List.take_append_drop]
      rw [hf]
    · have:=bv cd
      refine T.fin ?_
      have hf:l.find? (vE c pl k fr c.Harts.flatten[k].Hart)=none:=by
        rw [List.find?_eq_none]
        intro x hx
        rw [hq x (by rw [List.take_of_length_le (by omega)]; exact hx)]
        exact Bool.false_ne_true
      rw [hf]
  obtain ⟨r,h1,h2⟩:=key
  rw [h1,h2]
theorem Sw (n:Nat) (c:af) (hc:bP c) (hr:bz n c) (hn:200≤n) {w:List (Int×List Int)} {pl:List Int} (ct:gE c w pl) (k:Nat) (hk:k<c.Harts.flatten.length) (h4:c.Harts.flatten[k].Kind=4) (fr:Int) (f:Nat) (ef:fr + 1=(f:Int)) (hlt:fr<l9 pl (k:Int)) :
    iter (fun s=>c_ n (VV c) pl (k:Int) c.Harts.flatten[k] s) n (f:Int)=some (match qS c pl k hk fr with | none=>.inl () | some x=>.inr x):=by
  have hpl:=ct.len
  have hor:=hc.order
  have hkp:k<pl.length:=by omega
  have ek:=l8 hkp
  obtain ⟨a,ha,ea⟩:=ua hr k hk (by unfold fy; rw [h4]; rfl)
  have eka:l9 pl (k:Int)=(a:Int):=by rw [← ea]; exact qw hr ct a ha
  have hT:qS c pl k hk fr=c.Order.find? (fun x=>yG c.Harts.flatten c.Harts.flatten[k].Addr x&&vE c pl k fr c.Harts.flatten[k].Hart x):=by
    unfold qS WL
    rw [List.find?_filter]
    congr 1
    funext x
    cases yG c.Harts.flatten c.Harts.flatten[k].Addr x <;> cases vE c pl k fr c.Harts.flatten[k].Hart x <;> rfl
  rw [hT]
  have key:T (iter (fun s=>c_ n (VV c) pl (k:Int) c.Harts.flatten[k] s) n (f:Int)) (fun t=>t=(match c.Order.find? (fun x=>yG c.Harts.flatten c.Harts.flatten[k].Addr x&&vE c pl k fr c.Harts.flatten[k].Hart x) with | none=>.inl () | some x=>.inr x)):=by
    refine T.loop (a - f) (fun i s=>s=((f + i:Nat):Int)∧f + i≤a∧∀ x∈c.Order.take (f + i),(yG c.Harts.flatten c.Harts.flatten[k].Addr x&&vE c pl k fr c.Harts.flatten[k].Hart x)=false) _ ?_ ⟨rfl,by omega,fun x hx=>?_⟩ (by omega)
    · rintro i s hi ⟨rfl,hia,hq⟩
      unfold c_
      dsimp only
      refine T.get k rfl hkp ?_
      refine T.ite (fun cd=>?_) (fun cd=>?_)
      · have cd:=of_decide_eq_true cd
        have hil:f + i<c.Order.length:=by omega
        obtain ⟨j,hj,ej,_⟩:=hr.ord (f + i) hil
        have gj:=aS ej hj
        have ep:=qw hr ct (f + i) hil
        have nxt:(yG c.Harts.flatten c.Harts.flatten[k].Addr c.Order[f + i]&&vE c pl k fr c.Harts.flatten[k].Hart c.Order[f + i])=false→i<a - f∧(ac .i64 ((f + i:Nat):Int) 1=((f + (i + 1):Nat):Int)∧f + (i + 1)≤a∧∀ x∈c.Order.take (f + (i + 1)),(yG c.Harts.flatten c.Harts.flatten[k].Addr x&&vE c pl k fr c.Harts.flatten[k].Hart x)=false):=fun hno=>by
          refine ⟨by omega,by rw [av _ (by omega)]; omega,by omega,fun x hx=>?_⟩
          rw [show f + (i + 1)=f + i + 1 by omega,List.take_succ_eq_append_getElem hil] at hx
          rcases List.mem_append.1 hx with h | h
          · exact hq x h
          · rw [List.mem_singleton.1 h]
            exact hno
        have pw:yG c.Harts.flatten c.Harts.flatten[k].Addr c.Order[f + i]=(kF c.Harts.flatten[j].Kind&&(c.Harts.flatten[j].Addr==c.Harts.flatten[k].Addr)):=by
          unfold yG
          rw [gj]
        have pp:vE c pl k fr c.Harts.flatten[k].Hart c.Order[f + i]=(c.Harts.flatten[j].Hart != c.Harts.flatten[k].Hart):=by
          unfold vE
          rw [gj,ep,show decide (fr<((f + i:Nat):Int))=true from decide_eq_true (by omega),show decide (((f + i:Nat):Int)<l9 pl (k:Int))=true from decide_eq_true (by omega)]
          rfl
        refine T.get (l:=c.Order) (f + i) rfl hil ?_
        refine T.get (l:=c.Harts.flatten) j ej hj ?_
        refine T.ite (fun d1=>?_) (fun d1=>T.ret (nxt (by rw [pp,d1,Bool.and_false])))
        refine T.eqb (fU _ _) ?_
        refine T.ite (fun d2=>?_) (fun d2=>T.ret (nxt (by rw [pw,d2]; rfl)))
        refine T.ite (fun d3=>?_) (fun d3=>T.ret (nxt (by rw [pw,d3,Bool.and_false]; rfl)))
        refine T.fin ?_
        have hf:c.Order.find? (fun x=>yG c.Harts.flatten c.Harts.flatten[k].Addr x&&vE c pl k fr c.Harts.flatten[k].Hart x)=some c.Order[f + i]:=by
          rw [List.find?_eq_some_iff_append]
          refine ⟨by rw [pw,pp,d1,d2,d3]; rfl,c.Order.take (f + i),c.Order.drop (f + i + 1),?_,fun x hx=>by rw [hq x hx]; rfl⟩
          rw [← List.drop_eq_getElem_cons,List.take_append_drop]
        rw [hf]
      · have cd:=of_decide_eq_false cd
        refine T.fin ?_
        have hf:c.Order.find? (fun x=>yG c.Harts.flatten c.Harts.flatten[k].Addr x&&vE c pl k fr c.Harts.flatten[k].Hart x)=none:=by
          rw [List.find?_eq_none]
          intro x hx
          obtain ⟨q,hq1,eq⟩:=List.mem_iff_getElem.1 hx
          by_cases hqa:q<f + i
          · rw [hq x (by rw [← eq]; exact List.mem_take_iff_getElem.2 ⟨q,by omega,rfl⟩)]
            exact Bool.false_ne_true
          · have:vE c pl k fr c.Harts.flatten[k].Hart x=false:=by
              unfold vE
              rw [← eq,qw hr ct q hq1,show decide ((q:Int)<l9 pl (k:Int))=false from decide_eq_false (by omega),Bool.and_false]
              rfl
            rw [this,Bool.and_false]
            exact Bool.false_ne_true
        rw [hf]
    · obtain ⟨q,hq1,eq⟩:=List.mem_take_iff_getElem.1 hx
      have:vE c pl k fr c.Harts.flatten[k].Hart x=false:=by
        unfold vE
        rw [← eq,qw hr ct q (by omega),show decide (fr<(q:Int))=false from decide_eq_false (by omega)]
        rfl
      rw [this,Bool.and_false]
  obtain ⟨r,h1,h2⟩:=key
  rw [h1,h2]


theorem MZ (n:Nat) (c:af) (hc:bP c) (hr:bz n c) (hn:200≤n) {w:List (Int×List Int)} {pl:List Int} (ct:gE c w pl) (sa:Int) :
    bF n c.First c.Harts c.From c.Order w c.Harts.flatten pl sa=dE n (VV c,true) pl sa:=by
  have hf:=hc.all
  have hpl:=ct.len
  have hfl:=hr.fromLen
  unfold bF dE
  show (if decide (sa<(c.Harts.flatten.length:Int))=true then _ else _)=(if decide (sa<(c.Harts.flatten.length:Int))=true then (ak c.Harts.flatten sa).bind _ else _)
  by_cases h:decide (sa<(c.Harts.flatten.length:Int))=true
  · rw [if_pos h,if_pos h]
    by_cases h0:0≤sa
    · have h:=of_decide_eq_true h
      obtain ⟨k,rfl⟩:∃ k:Nat,sa=(k:Int):=⟨sa.toNat,by omega⟩
      have hk:k<c.Harts.flatten.length:=by omega
      have hkp:k<pl.length:=by omega
      have ek:=l8 hkp
      rw [aS rfl hk]
      simp only [Option.bind_some]
      by_cases h4:c.Harts.flatten[k].Kind=4
      · have hb:¬ (c.Harts.flatten[k].Kind != 4)=true:=by rw [h4]; decide
        rw [if_neg hb,if_neg hb]
        obtain ⟨hlr,elr⟩:=J5 hc hr k hk h4
        have elr2:aJ .i64 (k:Int) (aJ .i64 c.Harts.flatten[k].At c.Harts.flatten[k].Pair)=((gU c k hk:Nat):Int):=by
          obtain ⟨_,h1,h2,h3⟩:=rE hc hr k hk
          have h5:=(qp _ h1).2.2.2.2.2.1 h4
          unfold gU
          revert h1 h2 h3 h5
          generalize c.Harts.flatten[k]=e
          intro h1 h2 h3 h5
          rw [yK (a:=e.At) (by omega) (by omega),yK (by omega) (by omega)]
          omega
        have hlf:gU c k hk<c.From.length:=by omega
        have hP:sH n (VV c) pl (k:Int)=(ak c.From ((gU c k hk:Nat):Int)).bind fun x2 =>
            if decide (x2≥0)=true then (ak pl x2).bind fun x4=>(ak pl (k:Int)).bind fun x5=>if decide (x4≥x5)=true then some (((gU c k hk:Nat):Int),x2) else
              (iter (fun s=>c_ n (VV c) pl (k:Int) c.Harts.flatten[k] s) n (ac .i64 x4 1)).bind fun t7=>match t7 with | .inl w8=>some (((gU c k hk:Nat):Int),-1) | .inr w8=>some (((gU c k hk:Nat):Int),w8)
            else (iter (fun s=>c_ n (VV c) pl (k:Int) c.Harts.flatten[k] s) n 0).bind fun t4=>match t4 with | .inl w5=>some (((gU c k hk:Nat):Int),-1) | .inr w5=>some (((gU c k hk:Nat):Int),w5):=by
          unfold sH
          show (ak c.Harts.flatten (k:Int)).bind _=_
          rw [aS rfl hk]
          simp only [Option.bind_some]
          rw [elr2]
          rfl
        rw [hP,elr,aS rfl hlf]
        simp only [Option.bind_some]
        have hw:=ct.has c.Harts.flatten[k].Addr
        have hfc:=(yA n c hr (gU c k hk) (by omega)).1
        -- the loop over those that wrote there
        have L:∀ (fr:Int) (f:Nat),fr + 1=(f:Int)→fr<l9 pl (k:Int)→∀ l:List Int,l=WL c c.Harts.flatten[k].Addr →
            ((iter (fun s=>az n c.First c.Harts c.From c.Order w c.Harts.flatten pl c.Harts.flatten[k] s) n ((k:Int),(k:Int),((gU c k hk:Nat):Int),fr,l,(l.length:Int),0)).bind fun t=>match t with
              | .inl wa11=>some (.inl (ac .i64 wa11 1):Int⊕(Unit⊕(Bool×Int×Int×Int)))
              | .inr wa11=>some (.inr (.inr (wa11.1,wa11.2.1,wa11.2.2.1,wa11.2.2.2)))) =
            ((iter (fun s=>c_ n (VV c) pl (k:Int) c.Harts.flatten[k] s) n (f:Int)).bind fun t4=>match t4 with | .inl w5=>some (((gU c k hk:Nat):Int),(-1:Int)) | .inr w5=>some (((gU c k hk:Nat):Int),w5)).bind fun ya4 =>
              if decide (ya4.2≥0)=true then (qA n 4 ya4.1 ya4.2).bind fun ya6=>some (.inr (.inr (ya6.OK,ya6.Why,ya6.A_,ya6.B))) else some (.inl (ac .i64 (k:Int) 1)):=by
          intro fr f ef hlt l hl
          subst hl
          rw [Sv n c hc hr hn ct k hk,Sw n c hc hr hn ct k hk h4 fr f ef hlt]
          cases hT:qS c pl k hk fr with
          | none=>rfl
          | some x =>
            have hx:x∈WL c c.Harts.flatten[k].Addr:=List.mem_of_find?_eq_some hT
            obtain ⟨j,_,ej⟩:=BY hr _ x hx
            simp only [Option.bind_some]
            rw [if_pos (decide_eq_true (show x≥0 by omega))]
            rfl
        by_cases d1:c.From[gU c k hk]≥0
        · rw [if_pos (decide_eq_true d1),if_pos (decide_eq_true d1)]
          obtain ⟨j,hj,ej⟩:∃ j:Nat,j<c.Harts.flatten.length∧c.From[gU c k hk]=(j:Int):=by
            rcases hfc with h | h
            · omega
            · exact h
          have hjp:j<pl.length:=by omega
          rw [aS ej hjp,aS rfl hkp]
          simp only [Option.bind_some]
          by_cases d2:pl[j]≥pl[k]
          · rw [if_pos (decide_eq_true d2),if_pos (decide_eq_true d2)]
            simp only [Option.bind_some]
            rw [if_pos (decide_eq_true d1)]
            rfl
          · rw [if_neg (by simpa using d2),if_neg (by simpa using d2)]
            have hge:=Ix hr ct (j:Int)
            rw [l8 hjp] at hge
            obtain ⟨a,ha,ea⟩:=ua hr k hk (by unfold fy; rw [h4]; rfl)
            have eka:l9 pl (k:Int)=(a:Int):=by rw [← ea]; exact qw hr ct a ha
            have hor:=hc.order
            rw [yJ (by omega) (by omega)]
            rw [show pl[j] + 1=(((pl[j] + 1).toNat:Nat):Int) by omega]
            cases hm:jn ey w c.Harts.flatten[k].Addr with
            | none =>
              rw [hm] at hw
              exact L _ _ (by omega) (by omega) [] hw
            | some l =>
              rw [hm] at hw
              exact L _ _ (by omega) (by omega) l hw
        · rw [if_neg (by simpa using d1),if_neg (by simpa using d1)]
          have hge:=Ix hr ct (k:Int)
          obtain ⟨a,ha,ea⟩:=ua hr k hk (by unfold fy; rw [h4]; rfl)
          have eka:l9 pl (k:Int)=(a:Int):=by rw [← ea]; exact qw hr ct a ha
          cases hm:jn ey w c.Harts.flatten[k].Addr with
          | none =>
            rw [hm] at hw
            exact L (-1) 0 (by omega) (by omega) [] hw
          | some l =>
            rw [hm] at hw
            exact L (-1) 0 (by omega) (by omega) l hw
      · have hb:(c.Harts.flatten[k].Kind != 4)=true:=by simpa using h4
        rw [if_pos hb,if_pos hb]
    · rw [Dw _ h0]
      rfl
  · rw [if_neg h,if_neg h]

end Go.Proofs.YtomahedcdcnnhaaGreatDoor
