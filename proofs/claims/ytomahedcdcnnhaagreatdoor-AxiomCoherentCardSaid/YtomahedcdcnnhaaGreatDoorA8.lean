/- All harts agree about one address: the law, on lists and numbers. Nothing is claimed of the program here. -/
import Derived.Test.YtomahedcdcnnhaaGreatDoorA3
import Derived.KernelRfl
namespace Go.Proofs.YtomahedcdcnnhaaGreatDoor
open Go A

theorem Dr {n:Nat} {c:af} (hr:bU n c) {w w':List (Int×List Int)} {pl pl':List Int} (h:gW c w pl) (h':gW c w' pl'):pl=pl':=by
  apply List.ext_getElem
  · rw [h.len,h'.len]
  · intro k hk hk'
    rcases h.plc k hk with ⟨e,hno⟩ | ⟨a,ha,h1,h2,h3⟩
    · rcases h'.plc k hk' with ⟨e',_⟩ | ⟨a',ha',h1',h2',_⟩
      · rw [e,e']
      · exact absurd h2' (hno a' h1' ha')
    · rcases h'.plc k hk' with ⟨_,hno⟩ | ⟨a',ha',h1',h2',h3'⟩
      · exact absurd h2 (hno a h1 ha)
      · have:a=a':=by
          rcases Nat.lt_trichotomy a a' with hlt | heq | hlt
          · exact absurd (h2.trans h2'.symm) (hr.dist a a' ha ha' hlt)
          · exact heq
          · exact absurd (h2'.trans h2.symm) (hr.dist a' a ha' ha hlt)
        rw [h3,h3',this]
theorem Ds (n:Nat) (c:af) (hc:dA c) (hr:bU n c) (hn:200≤n):T (kK n c) (fun l=>l.length=c.Harts.flatten.length∧qW c l c.Order.length):=by
  have hf:=hc.all
  have hor:=hc.order
  unfold kK
  refine T.eqb (J8 n c hc hn hr) ?_
  refine T.ite (fun d=>by simp at d) (fun _=>?_)
  rw [hr.fromLen]
  refine T.grd (by simp [-List.length_flatten]; omega) ?_
  rw [Int.toNat_natCast]
  refine T.bind (P:=fun l=>l=List.replicate c.Harts.flatten.length (-1)) ?_ (fun l hl=>?_)
  · refine T.loop c.Harts.flatten.length (fun i s=>s=(List.replicate i (-1)++List.replicate (c.Harts.flatten.length - i) 0,(i:Int))) _ ?_ (by simp) (by omega)
    rintro i s hi rfl
    unfold jF
    dsimp only
    have hlen:(List.replicate i (-1:Int)++List.replicate (c.Harts.flatten.length - i) 0).length=c.Harts.flatten.length:=by
      simp only [List.length_append,List.length_replicate]
      omega
    rw [hlen]
    refine T.ite (fun cd=>?_) (fun cd=>?_)
    · have hil:=bO cd
      refine T.get i rfl (by rw [hlen]; exact hil) ?_
      refine T.ret ⟨hil,?_⟩
      rw [aY _ (by omega),Int.toNat_natCast]
      congr 1
      apply List.ext_getElem
      · simp only [List.length_set,List.length_append,List.length_replicate]
        omega
      · intro k h1 h2
        rw [List.getElem_set]
        split
        · rename_i e
          subst e
          rw [List.getElem_append_left (by simp)]
          simp
        · rename_i e
          by_cases hk:k<i
          · rw [List.getElem_append_left (by simpa using hk),List.getElem_append_left (by simp; omega)]
            simp
          · rw [List.getElem_append_right (by simp; omega),List.getElem_append_right (by simp; omega)]
            simp
    · have:=cV cd
      have e:i=c.Harts.flatten.length:=by omega
      subst e
      exact T.fin (by simp)
  · subst hl
    refine T.bind (P:=fun l=>l.length=c.Harts.flatten.length∧qW c l c.Order.length) ?_ (fun l hl=>T.ret hl)
    refine T.loop c.Order.length (fun i s=>s.2=(i:Int)∧s.1.length=c.Harts.flatten.length∧qW c s.1 i) _ ?_ ⟨rfl,by simp,fun k hk=>.inl ⟨by simp,fun a h=>by omega⟩⟩ (by omega)
    rintro i ⟨s1,s2⟩ hi ⟨e1,e2,hq⟩
    dsimp only at e1 e2 hq
    subst e1
    unfold jG
    refine T.ite (fun cd=>?_) (fun cd=>?_)
    · have hil:=bO cd
      obtain ⟨j,hj,hoj,_⟩:=hr.ord i hil
      refine T.get i rfl hil ?_
      refine T.get j hoj (by dsimp only; omega) ?_
      refine T.ret ⟨hil,aY _ (by omega),by dsimp only; rw [List.length_set]; exact e2,fun k hk=>?_⟩
      dsimp only at hk ⊢
      rw [B4 hoj hk (by rw [List.length_set] at hk; exact hk)]
      by_cases e:j=k
      · subst e
        rw [if_pos rfl]
        exact .inr ⟨i,hil,by omega,hoj,rfl⟩
      · rw [if_neg e]
        rcases hq k (by rw [List.length_set] at hk; exact hk) with ⟨h1,h2⟩ | ⟨a,ha,h1,h2,h3⟩
        · refine .inl ⟨h1,fun a hai ha=>?_⟩
          by_cases e3:a=i
          · subst e3; rw [hoj]; omega
          · exact h2 a (by omega) ha
        · exact .inr ⟨a,ha,by omega,h2,h3⟩
    · have:=cV cd
      have e:i=c.Order.length:=by omega
      subst e
      exact T.fin ⟨e2,hq⟩

def JD (N:Nat) (x:Int):Prop:=x=-1∨∃ j:Nat,j<N∧x=(j:Int)
theorem H1 (n:Nat) (pl:List Int) (x:Int) (h:JD pl.length x):fZ n pl x=some (pf pl x):=by
  unfold fZ
  rcases h with rfl | ⟨j,hj,rfl⟩
  · rfl
  · rw [if_neg (by simp),cf rfl hj,nq hj]
    rfl

section
variable {n:Nat} {c:af} {w:List (Int×List Int)} {pl:List Int}
theorem pH (hr:bU n c) (ct:gW c w pl) (k:Nat) (hk:k<c.Harts.flatten.length):JD pl.length (c.From[k]'(by rw [hr.fromLen]; exact hk)):=by
  rw [ct.len]
  exact (qX n c hr k hk).1
theorem Mm (hc:dA c) (hr:bU n c) (hn:200≤n) (ct:gW c w pl) (ho:JA n c pl) (hv:H0 n c hr pl) (a:Nat) (ha:a<c.Harts.flatten.length) :
    T (iter (fun s=>dm n c c.Harts.flatten pl c.Harts.flatten[a] s) n ((a:Int),ah .i64 (a:Int) 1)) (fun t=>t=.inl (a:Int)):=by
  have hf:=hc.all
  rw [aY _ (by omega)]
  refine T.loop (c.Harts.flatten.length - (a + 1)) (fun i s=>s=((a:Int),((a + 1 + i:Nat):Int))) _ ?_ rfl (by omega)
  rintro i s hi rfl
  unfold dm
  dsimp only
  refine T.ite (fun cd=>?_) (fun cd=>T.fin rfl)
  have hil:=bO cd
  have nxt:i<c.Harts.flatten.length - (a + 1)∧((a:Int),ah .i64 ((a + 1 + i:Nat):Int) 1)=((a:Int),((a + 1 + (i + 1):Nat):Int)):=⟨by omega,by rw [aY _ (by omega)]; rfl⟩
  generalize hb:a + 1 + i=b at *
  have hab:a<b:=by omega
  refine T.get b rfl hil ?_
  refine T.ite (fun _=>T.ret nxt) (fun d1=>?_)
  have hh:=xi d1
  refine T.ite (fun _=>T.ret nxt) (fun d2=>?_)
  have hA:=xi d2
  refine T.eqb (sh _ _) ?_
  refine T.ite (fun _=>T.ret nxt) (fun d3=>?_)
  refine T.eqb (np _ _) ?_
  refine T.ite (fun _=>T.ret nxt) (fun d4=>?_)
  have rb:=jB d4
  have gf:aw c.From (b:Int)=some (c.From[b]'(by rw [hr.fromLen]; exact hil)):=cf rfl (by rw [hr.fromLen]; exact hil)
  have ga:aw c.From (a:Int)=some (c.From[a]'(by rw [hr.fromLen]; exact ha)):=cf rfl (by rw [hr.fromLen]; exact ha)
  have ab:=H1 n pl _ (pH hr ct b hil)
  have aa:=H1 n pl _ (pH hr ct a ha)
  refine T.eqb (lS _ _) ?_
  refine T.ite (fun d5=>?_) (fun d5=>?_)
  · refine T.eqb gf ?_
    refine T.eqb ab ?_
    refine T.eqb (H1 n pl (a:Int) (.inr ⟨a,by rw [ct.len]; exact ha,rfl⟩)) ?_
    have h1:=Pe hr ct hv a b hab hil hh hA d5 rb
    refine T.ite (fun d=>absurd (of_decide_eq_true d) (by omega)) (fun _=>?_)
    refine T.eqb (np _ _) ?_
    refine T.ite (fun d6=>?_) (fun _=>T.ret nxt)
    refine T.eqb ab ?_
    refine T.eqb ga ?_
    refine T.eqb aa ?_
    have h2:=Pf hc hr hn ct ho hv a b hab hil hh hA d6 rb
    exact T.ite (fun d=>absurd (of_decide_eq_true d) (by omega)) (fun _=>T.ret nxt)
  · refine T.eqb (np _ _) ?_
    refine T.ite (fun d6=>?_) (fun _=>T.ret nxt)
    refine T.eqb gf ?_
    refine T.eqb ab ?_
    refine T.eqb ga ?_
    refine T.eqb aa ?_
    have h2:=Pf hc hr hn ct ho hv a b hab hil hh hA d6 rb
    exact T.ite (fun d=>absurd (of_decide_eq_true d) (by omega)) (fun _=>T.ret nxt)
theorem Kc (_hr:bU n c) (ct:gW c w pl) (k:Nat) (hk:k<c.Harts.flatten.length):pf pl (k:Int)≤(c.Order.length:Int):=by
  have hk2:k<pl.length:=by rw [ct.len]; exact hk
  rw [nq hk2]
  rcases ct.plc k hk2 with ⟨e,_⟩ | ⟨a,ha,_,_,e⟩ <;> omega
theorem H2 (hc:dA c) (hr:bU n c) (hn:200≤n) (ct:gW c w pl) (k:Nat) (hk:k<c.Harts.flatten.length) (fr:Int) (hfr:-1≤fr) (hfr2:fr≤1000)
    (hno:∀ (j:Nat) (hj:j<c.Harts.flatten.length),pG c.Harts.flatten[j].Kind=true→c.Harts.flatten[j].Addr=c.Harts.flatten[k].Addr→(c.Harts.flatten[k].Kind=4→c.Harts.flatten[j].Hart≠c.Harts.flatten[k].Hart)→¬ (fr<pf pl (j:Int)∧pf pl (j:Int)<pf pl (k:Int))) :
    T (iter (fun s=>bF n c c.Harts.flatten pl c.Harts.flatten[k] s) n (ah .i64 fr 1,(k:Int))) (fun t=>t=.inl (k:Int)):=by
  have hf:=hc.all
  have hor:=hc.order
  have hk2:k<pl.length:=by rw [ct.len]; exact hk
  have hle:=Kc hr ct k hk
  rw [Ce (by omega) (by omega)]
  refine T.loop (pf pl (k:Int) - (fr + 1)).toNat (fun i s=>s=(fr + 1 + (i:Int),(k:Int))) _ ?_ (by simp) (by omega)
  rintro i s hi rfl
  unfold bF
  dsimp only
  refine T.get k rfl hk2 ?_
  rw [← nq hk2]
  refine T.ite (fun cd=>?_) (fun cd=>T.fin rfl)
  have cd:=of_decide_eq_true cd
  have nxt:i<(pf pl (k:Int) - (fr + 1)).toNat∧(ah .i64 (fr + 1 + (i:Int)) 1,(k:Int))=(fr + 1 + ((i + 1:Nat):Int),(k:Int)):=⟨by omega,by rw [Ce (by omega) (by omega)]; congr 1; omega⟩
  obtain ⟨q,hq⟩:∃ q:Nat,fr + 1 + (i:Int)=(q:Int):=⟨(fr + 1 + (i:Int)).toNat,by omega⟩
  have hqo:q<c.Order.length:=by omega
  refine T.get q hq hqo ?_
  obtain ⟨j,hj,hoj,_⟩:=hr.ord q hqo
  have hpj:=HY hr ct q hqo
  rw [hoj] at hpj ⊢
  refine T.get j rfl hj ?_
  refine T.eqb (lS _ _) ?_
  refine T.ite (fun d1=>?_) (fun _=>T.ret nxt)
  refine T.ite (fun d2=>?_) (fun _=>T.ret nxt)
  have d2:=eq_of_beq d2
  refine T.ite (fun d3=>?_) (fun d3=>?_)
  · exact absurd ⟨by omega,by omega⟩ (hno j hj d1 d2 (fun h4=>by rw [h4] at d3; cases d3))
  · refine T.ite (fun d4=>?_) (fun _=>T.ret nxt)
    exact absurd ⟨by omega,by omega⟩ (hno j hj d1 d2 (fun _=>by simpa using d4))
end
set_option maxRecDepth 1000000 in
set_option maxHeartbeats 0 in
theorem Mn:ml 4000=some true:=by kernel_rfl
theorem AC (n:Nat) (c:af) (hlv:ml n=some true) (hn:4000≤n):T (eH n c) (fun b=>b=true):=by
  unfold eH
  refine T.eqb hlv ?_
  refine T.ite (fun d=>by cases d) (fun _=>?_)
  refine T.bind (Mc n c 30 (by omega) (by omega)) (fun b hb=>?_)
  refine T.ite (fun _=>T.ret rfl) (fun d=>?_)
  obtain ⟨hc,hN⟩:=hb (jB d)
  refine T.bind (Sj n c hc hn) (fun b hb=>?_)
  refine T.ite (fun _=>T.ret rfl) (fun d=>?_)
  obtain ⟨hr,w,pl,ct,hord,hval,hpair⟩:=hb (jB d)
  have hv:H0 n c hr pl:=hval
  have hf:=hc.all
  have hall:q6 n c=some c.Harts.flatten:=by
    unfold q6
    rw [J8 n c hc (by omega) hr]
    show ((jO n c).bind fun y3=>some y3)=_
    rw [HJ n c hc (by omega)]
    rfl
  refine T.eqb hall ?_
  refine T.bind (Ds n c hc hr (by omega)) (fun l ⟨hl,hp⟩=>?_)
  have epl:l=pl:=Dr hr (w:=w) ⟨ct.has,hl,hp⟩ ct
  subst epl
  refine T.bind (P:=fun t=>t=.inl ()) ?_ (fun t ht=>by rw [ht]; exact T.ret rfl)
  refine T.loop c.Harts.flatten.length (fun i s=>s=(i:Int)) _ ?_ rfl (by omega)
  rintro a s hi rfl
  unfold eG
  refine T.ite (fun cd=>?_) (fun cd=>T.fin rfl)
  have ha:=bO cd
  refine T.get a rfl ha ?_
  refine T.bind (Mm hc hr (by omega) ct hord hv a ha) (fun t ht=>?_)
  rw [ht]
  dsimp only
  have nxt:a<c.Harts.flatten.length∧ah .i64 (a:Int) 1=((a + 1:Nat):Int):=⟨ha,aY _ (by omega)⟩
  have ga:aw c.From (a:Int)=some (c.From[a]'(by rw [hr.fromLen]; exact ha)):=cf rfl (by rw [hr.fromLen]; exact ha)
  have bnd:∀ (k:Nat) (hk:k<c.Harts.flatten.length),pf l (c.From[k]'(by rw [hr.fromLen]; exact hk))≤1000:=fun k hk=>by
    rcases (qX n c hr k hk).1 with h | ⟨j,hj,h⟩
    · rw [h,HX]; omega
    · rw [h]
      have:=Kc hr ct j hj
      have:=hc.order
      omega
  refine T.ite (fun d5=>?_) (fun d5=>?_)
  · refine T.ite (fun d4=>T.ret nxt) (fun d4=>?_)
    have k4:c.Harts.flatten[a].Kind=4:=by simpa using d4
    refine T.eqb ga ?_
    refine T.ite (fun _=>?_) (fun d=>absurd k4 (by simpa using d))
    have hpf:=hpair a ha k4
    obtain ⟨hlr,elr⟩:=J9 hc hr a ha k4
    have hlrN:ln c a ha<c.From.length:=by rw [hr.fromLen]; omega
    obtain ⟨_,g1,g2,g3⟩:=En hc hr a ha
    have g5:=(tw _ g1).2.2.2.2.2.1 k4
    have e2:cT .i64 (a:Int) (cT .i64 c.Harts.flatten[a].At c.Harts.flatten[a].Pair)=((ln c a ha:Nat):Int):=by
      rw [← elr]
      generalize c.Harts.flatten[a]=e at g2 g3 g5 ⊢
      rw [xn (a:=e.At) (by omega) (by omega),xn (by omega) (by omega),xn (a:=(a:Int)) (by omega) (by omega),Ce (by omega) (by omega)]
      omega
    rw [e2]
    refine T.get (ln c a ha) rfl hlrN ?_
    refine T.eqb (H1 n l _ (pH hr ct (ln c a ha) (by omega))) ?_
    refine T.bind (H2 hc hr (by omega) ct a ha _ (Do hr ct _) (bnd _ (by omega)) (fun j hj wj aj hne=>?_)) (fun t ht=>by rw [ht]; exact T.ret nxt)
    have h:=hpf.none_ hlrN j hj (HZ hr j hj wj _ aj)
    rintro ⟨q1,q2⟩
    rw [nq (by rw [ct.len]; exact hj)] at q1 q2
    rw [nq (by rw [ct.len]; exact ha)] at q2
    exact h ⟨q1,q2,hne k4⟩
  · have k5:c.Harts.flatten[a].Kind=5:=by simpa using d5
    refine T.eqb ga ?_
    refine T.ite (fun d=>by rw [k5] at d; cases d) (fun _=>?_)
    refine T.eqb (H1 n l _ (pH hr ct a ha)) ?_
    refine T.bind (H2 hc hr (by omega) ct a ha _ (Do hr ct _) (bnd _ ha) (fun j hj wj aj _=>QJ hr ct hv a ha (by rw [k5]; rfl) j hj wj aj)) (fun t ht=>by rw [ht]; exact T.ret nxt)
theorem x_ (c:af):eH 4000 c=some true:=by
  obtain ⟨r,h,e⟩:=AC 4000 c Mn (Nat.le_refl _)
  rw [h,e]

end Go.Proofs.YtomahedcdcnnhaaGreatDoor
