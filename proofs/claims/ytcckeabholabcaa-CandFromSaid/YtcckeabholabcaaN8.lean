/- Another From, or another Order: what is so of every candidate. Plain lists, no program in sight. -/
import Derived.Test.YtcckeabholabcaaF1
namespace Go.Proofs.Ytcckeabholabcaa
open Go A

/-! ### Copies -/
theorem rg (l:List Int) (h:l.length≤1000):Nat.ble (l.length * 8) 140737488355328=true:=ble_of (by omega)
theorem ownDeps_ (n:Nat) (e:Event) (h:small e):kit_OwnDeps n e.Deps=some e.Deps:=by
  obtain ⟨h1,h2,h3⟩:=h
  unfold kit_OwnDeps kit_Own_int_S kit_Own_int_S2 kit_Own_int_S3
  rw [grd_pos (rg _ (by omega)),grd_pos (rg _ (by omega)),grd_pos (rg _ (by omega))]
  rfl
theorem ownEvent_ (n:Nat) (e:Event) (h:small e):kit_OwnEvent n e=some e:=by
  unfold kit_OwnEvent
  rw [ownDeps_ n e h]
  rfl
theorem ownEvents_ (n:Nat) (l:List Event) (hl:smalls l) (hn:200≤n):kit_OwnEvents n l=some l:=by
  have h1:=hl.1
  have key:T (kit_OwnEvents n l) (fun r=>r=l):=by
    unfold kit_OwnEvents
    refine T.bind (P:=fun r=>r=l) ?_ (fun r hr=>T.ret hr)
    refine T.loop l.length (fun i s=>s=(l.take i,(i:Int))) _ ?_ (by simp) (by omega)
    rintro i s hi rfl
    unfold kit_OwnEvents_L1
    refine T.ite (fun cd=>?_) (fun cd=>T.fin (by dsimp only; exact List.take_of_length_le (ge_of cd)))
    have hil:=lt_of cd
    refine T.get i rfl hil ?_
    refine T.eqb (ownEvent_ n _ (hl.2 _ (List.getElem_mem hil))) ?_
    refine T.grd (ble_of (by simp only [List.length_take]; omega)) ?_
    refine T.ret ⟨hil,?_⟩
    rw [addN1 _ (by omega),List.take_succ_eq_append_getElem hil]
  obtain ⟨r,h2,h3⟩:=key
  rw [h2,h3]
theorem rowsStep {c:Cand} (hc:Light c) (n:Nat) (hn:200≤n) (step:(List (List Event))×Int→Option (((List (List Event))×Int)⊕((List (List Event)))))
    (hs:∀ sa:(List (List Event))×Int,step sa=if (decide (sa.2<(c.Harts.length:Int)))=true then
      (getI c.Harts sa.2).bind fun xa2=>(kit_OwnEvents n xa2).bind fun ya3=>grd (Nat.ble ((sa.1.length + 1) * 24) 140737488355328) <| some (.inl ((sa.1++([ya3]:List (List Event))),(addW .i64 sa.2 1)))
      else some (.inr sa.1)):iter step n (([]:List (List Event)),0)=some c.Harts:=by
  have hh:=hc.harts
  have key:T (iter step n (([]:List (List Event)),0)) (fun r=>r=c.Harts):=by
    refine T.loop c.Harts.length (fun i s=>s=(c.Harts.take i,(i:Int))) _ ?_ (by simp) (by omega)
    rintro i s hi rfl
    rw [hs]
    refine T.ite (fun cd=>?_) (fun cd=>T.fin (by dsimp only; exact List.take_of_length_le (ge_of cd)))
    have hil:=lt_of cd
    refine T.get i rfl hil ?_
    refine T.eqb (ownEvents_ n _ (hc.rows _ (List.getElem_mem hil)) hn) ?_
    refine T.grd (ble_of (by simp only [List.length_take]; omega)) ?_
    refine T.ret ⟨hil,?_⟩
    rw [addN1 _ (by omega),List.take_succ_eq_append_getElem hil]
  obtain ⟨r,h2,h3⟩:=key
  rw [h2,h3]
theorem ownCells_ (n:Nat) (l:List Cell) (h:l.length≤1000):kit_Own_Cell n l=some l:=by
  unfold kit_Own_Cell
  rw [grd_pos (ble_of (by omega))]
theorem ownCand1 (n:Nat) (c:Cand) (hc:Light c) (hn:200≤n):kit_OwnCand_S n c=some (c.First,c.From,c.Order,c.Harts):=by
  have h1:=hc.first
  have h2:=hc.from_
  have h3:=hc.order
  unfold kit_OwnCand_S
  rw [ownCells_ n _ (by omega)]
  unfold kit_Own_int_S kit_Own_int_S2
  rw [grd_pos (rg _ (by omega)),grd_pos (rg _ (by omega))]
  simp only [Option.bind_some]
  rw [rowsStep hc n hn (fun s=>kit_OwnCand_S_L1 n c c.First s) (fun sa=>rfl)]
  rfl
theorem ownCand2 (n:Nat) (c:Cand) (o1 o2:List Int) (o3:List (List Event)) (hc:Light c) (hn:200≤n):kit_OwnCand_S2 n c o1 o2 o3=some (c.First,c.From,c.Order,c.Harts):=by
  have h1:=hc.first
  have h2:=hc.from_
  have h3:=hc.order
  unfold kit_OwnCand_S2
  rw [ownCells_ n _ (by omega)]
  unfold kit_Own_int_S4 kit_Own_int_S5
  rw [grd_pos (rg _ (by omega)),grd_pos (rg _ (by omega))]
  simp only [Option.bind_some]
  rw [rowsStep hc n hn (fun s=>kit_OwnCand_S2_L1 n c o1 o2 o3 c.First s) (fun sa=>rfl)]
  rfl
theorem ownCand3 (n:Nat) (c:Cand) (o1 o2:List Int) (o3:List (List Event)) (o4 o5:List Int) (o6:List (List Event)) (hc:Light c) (hn:200≤n):kit_OwnCand_S3 n c o1 o2 o3 o4 o5 o6=some (c.First,c.From,c.Order,c.Harts):=by
  have h1:=hc.first
  have h2:=hc.from_
  have h3:=hc.order
  unfold kit_OwnCand_S3
  rw [ownCells_ n _ (by omega)]
  unfold kit_Own_int_S6 kit_Own_int_S7
  rw [grd_pos (rg _ (by omega)),grd_pos (rg _ (by omega))]
  simp only [Option.bind_some]
  rw [rowsStep hc n hn (fun s=>kit_OwnCand_S3_L1 n c o1 o2 o3 o4 o5 o6 c.First s) (fun sa=>rfl)]
  rfl

/-! ### Another Order -/
theorem bad_order (n:Nat) (c:Cand) (hc:Light c) (ok:OK n c) (hn:200≤n) (o:List Int) (h1:o.length≤120) (h2:o.length≠c.Order.length):cand_Check n (Cand.mk c.First c.Harts c.From o)=some 2:=by
  have hl:Light (Cand.mk c.First c.Harts c.From o):=⟨hc.harts,hc.all,hc.first,hc.from_,h1,hc.rows⟩
  obtain ⟨r,hr,hok⟩:=check_ok n _ hl hn
  rcases hok with ⟨_,k⟩ | ⟨e,_⟩
  · exact absurd (k.count.trans ok.count.symm) h2
  · rw [hr,e]

/-- What comes behind the first test. -/
def tail (n:Nat) (c:Cand) (a:List Int) (fits:Bool):Option Bool :=
  (cand_Check n (Cand.mk c.First c.Harts a c.Order)).bind fun y16 =>
  if (!((y16==0)==fits))=true then
   some false
  else
   if ((c.Order.length:Int)==0)=true then
    some true
   else
    (kit_OwnCand_S2 n c a c.Order c.Harts).bind fun y19 =>
    (kit_OwnCand_S3 n c a c.Order c.Harts y19.2.1 y19.2.2.1 y19.2.2.2).bind fun y20 =>
    grd (decide ((0:Int)≤1)&&decide (1≤(y19.2.2.1.length:Int))) <|
    (getI y20.2.2.1 0).bind fun x22 =>
    grd (Nat.ble ((y20.2.2.1.length + 1) * 8) 140737488355328) <|
    (cand_Check n (Cand.mk y19.1 y19.2.2.2 y19.2.1 ((y19.2.2.1.drop 1).take (y19.2.2.1.length - 1)))).bind fun y24 =>
    if (y24==2)=true then
     (cand_Check n (Cand.mk y20.1 y20.2.2.2 y20.2.1 (y20.2.2.1++([x22]:List Int)))).bind fun y26 =>
     some (y26==2)
    else
     some false

/-- With another From at one place the candidate may be just where that event may read so. -/
theorem other_from (n:Nat) (c:Cand) (hc:Light c) (ok:OK n c) (hn:200≤n) (k:Nat) (hk:k<c.From.length) (f:Int) :
    T (cand_Check n (Cand.mk c.First c.Harts (c.From.set k f) c.Order)) (fun r=>(r=0↔cand_from n (Cand.mk c.First c.Harts (c.From.set k f) c.Order) c.Harts.flatten (k:Int)=some true)):=by
  have hl:Light (Cand.mk c.First c.Harts (c.From.set k f) c.Order):=⟨hc.harts,hc.all,hc.first,by rw [List.length_set]; exact hc.from_,hc.order,hc.rows⟩
  refine (check_ok n _ hl hn).imp fun r hr=>?_
  have hfl:=ok.fromLen
  constructor
  · intro e
    rcases hr with ⟨_,h⟩ | ⟨h,_⟩
    · exact h.froms k (by show k<c.Harts.flatten.length; omega)
    · rw [e] at h; cases h
  · intro e
    rcases hr with ⟨h,_⟩ | ⟨_,h⟩
    · exact h
    · refine absurd ?_ h
      obtain ⟨w,hw1,hw2⟩:=ok.rows
      refine ⟨ok.h1,ok.h8,ok.cellsB,ok.cells,⟨w,hw1,hw2⟩,by rw [List.length_set]; exact hfl,fun j hj=>?_,ok.ordB,ok.ord,ok.dist,ok.count⟩
      by_cases ejk:j=k
      · rw [ejk]; exact e
      · have h0:=ok.froms j hj
        have hg:getI (c.From.set k f) (j:Int)=getI c.From (j:Int):=by
          rw [getI_nat,getI_nat,List.getElem?_set_ne (fun e=>ejk e.symm)]
        unfold cand_from at h0 ⊢
        dsimp only
        rw [hg]
        exact h0

theorem tail_ (n:Nat) (c:Cand) (hc:Light c) (ok:OK n c) (hn:200≤n) (k:Nat) (hk:k<c.From.length) (f:Int) (fits:Bool) (hf:cand_from n (Cand.mk c.First c.Harts (c.From.set k f) c.Order) c.Harts.flatten (k:Int)=some fits) :
    T (tail n c (c.From.set k f) fits) (fun b=>b=true):=by
  have hcnt:=ok.count
  have hcl:=cnt_le c.Harts.flatten c.Harts.flatten.length
  have hall:=hc.all
  unfold tail
  refine T.bind (other_from n c hc ok hn k hk f) (fun r hr=>?_)
  have hr2:(r==0)=fits:=by
    rw [hf] at hr
    cases fits with
    | true=>simpa using hr
    | false =>
      have:¬ r=0:=fun e=>by have:=hr.1 e; cases this
      simpa using this
  rw [hr2]
  refine T.ite (fun d=>by simp at d) (fun _=>?_)
  refine T.ite (fun _=>T.ret rfl) (fun d=>?_)
  have hne:c.Order.length≠0:=by
    have d:¬ ((c.Order.length:Int)=0):=by simpa using d
    omega
  refine T.eqb (ownCand2 n c _ _ _ hc hn) ?_
  refine T.eqb (ownCand3 n c _ _ _ _ _ _ hc hn) ?_
  dsimp only
  refine T.grd (by simp; omega) ?_
  refine T.get 0 rfl (by omega) ?_
  refine T.grd (ble_of (by omega)) ?_
  refine T.eqb (bad_order n c hc ok hn _ (by simp; omega) (by simp; omega)) ?_
  refine T.ite (fun _=>?_) (fun d=>by simp at d)
  refine T.eqb (bad_order n c hc ok hn _ (by simp; omega) (by simp)) ?_
  exact T.ret rfl

theorem pick_ (n:Nat) (a:Int) (m:Nat) (h:1≤m) (hm:m≤100000):T (kit_Pick n a (m:Int)) (fun r=>0≤r∧r<(m:Int)):=by
  have h1:=Int.tmod_lt_of_pos a (b:=(m:Int)) (by omega)
  have h2:-(m:Int)<Int.tmod a (m:Int):=by
    have:=Int.lt_tmod_of_pos a (b:=(m:Int)) (by omega)
    omega
  unfold kit_Pick
  refine T.ite (fun d=>by have:=of_decide_eq_true d; omega) (fun _=>?_)
  refine T.grd (by simp; omega) ?_
  unfold remW
  refine T.ite (fun d=>?_) (fun d=>?_)
  · have d:=of_decide_eq_true d
    rw [addI (by omega) (by omega)]
    exact T.ret ⟨by omega,by omega⟩
  · have d:=of_decide_eq_false d
    exact T.ret ⟨by omega,h1⟩

theorem setk (l:List Int) (k:Nat) (f:Int) (h:k<l.length):getI (l.set k f) (k:Int)=some f:=by
  rw [getI_nat,List.getElem?_set_self h]

theorem from_law (n:Nat) (c:Cand) (n_ from0:Int) (hn:300≤n):T (law_CandFrom n c n_ from0) (fun b=>b=true):=by
  unfold law_CandFrom
  refine T.eqb (a:=true) rfl ?_
  refine T.ite (fun d=>by simp at d) (fun _=>?_)
  refine T.bind (light_ n c 60 (by omega) (by omega)) (fun b hb=>?_)
  refine T.ite (fun _=>T.ret rfl) (fun cb=>?_)
  obtain ⟨hc,_⟩:=hb (not_of cb)
  obtain ⟨r,hr,hok⟩:=check_ok n c hc (by omega)
  refine T.eqb hr ?_
  refine T.ite (fun _=>T.ret rfl) (fun d=>?_)
  have hr0:r=0:=ne_of d
  subst hr0
  have ok:OK n c:=by
    rcases hok with ⟨_,h⟩ | ⟨h,_⟩
    · exact h
    · cases h
  have hall:=hc.all
  have hfl:=ok.fromLen
  refine T.ite (fun _=>T.ret rfl) (fun d=>?_)
  have hlen:1≤c.From.length:=by
    have d:¬ ((c.From.length:Int)=0):=by simpa using d
    omega
  refine T.bind (pick_ n n_ c.From.length hlen (by omega)) (fun y8 hy8=>?_)
  obtain ⟨k,rfl⟩:∃ k:Nat,y8=(k:Int):=⟨y8.toNat,by omega⟩
  have hk:k<c.From.length:=by omega
  rw [addN1 _ (by omega)]
  refine T.bind (pick_ n from0 (c.From.length + 1) (by omega) (by omega)) (fun y9 hy9=>?_)
  refine T.eqb (all_ n c hc (by omega) hr) ?_
  refine T.ite (fun d=>by rw [hfl] at d; simp at d) (fun _=>?_)
  refine T.eqb (ownCand1 n c hc (by omega)) ?_
  dsimp only
  refine T.get k rfl hk ?_
  obtain ⟨f,hf⟩:∃ f:Int,subW .i64 y9 1=f:=⟨_,rfl⟩
  have hfv:f=y9 - 1:=by rw [← hf,subI (by omega) (by omega)]
  rw [hf]
  have hkf:k<c.Harts.flatten.length:=by omega
  simp only [Int.toNat_natCast]
  obtain ⟨e,he⟩:∃ e,c.Harts.flatten[k]=e:=⟨_,rfl⟩
  have hge:getI c.Harts.flatten (k:Int)=some e:=by rw [getI_at rfl hkf,he]
  -- what the program says of that event, with this From
  have hF:∀ b:Bool,(if (!(rdB e.Kind))=true then some (f==(-1)) else if (f==(-1))=true then (cand_found n c.First e.Addr).bind fun y6=>some (e.Load==y6) else
      if (decide (f<0))=true then some false else if (decide (f≥(c.Harts.flatten.length:Int)))=true then some false else if (f==(k:Int))=true then some false else
      (getI c.Harts.flatten f).bind fun x9=>(event_Writes n x9).bind fun y10=>if y10=true then if (x9.Addr==e.Addr)=true then some (x9.Store==e.Load) else some false else some false)=some b →
      cand_from n (Cand.mk c.First c.Harts (c.From.set k f) c.Order) c.Harts.flatten (k:Int)=some b:=by
    intro b h
    unfold cand_from
    dsimp only
    rw [hge,setk _ _ _ hk]
    simp only [Option.bind_some]
    rw [eReads_]
    exact h
  have hfirst:∀ a,cand_First n c a=cand_found n c.First a:=fun a=>by
    unfold cand_First
    rw [hr]
    simp only [Option.bind_some]
    rw [if_neg (by simp)]
    cases cand_found n c.First a <;> rfl
  obtain ⟨v,hv,_⟩:=found_ n c.First e.Addr ok.cells (by have:=hc.first; omega) (by omega)
  have go:∀ fits:Bool,cand_from n (Cand.mk c.First c.Harts (c.From.set k f) c.Order) c.Harts.flatten (k:Int)=some fits→T (tail n c (c.From.set k f) fits) (fun b=>b=true) :=
    fun fits h=>tail_ n c hc ok (by omega) k hk f fits h
  refine T.ite (fun d=>?_) (fun d=>?_)
  · -- from nowhere
    have hf1:f=-1:=eq_of_beq d
    refine T.eqb hge ?_
    refine T.eqb (reads_ n e) ?_
    refine T.ite (fun dr=>?_) (fun dr=>?_)
    · refine T.ite (fun d2=>by have:=of_decide_eq_true d2; omega) (fun _=>?_)
      exact go true (hF true (by rw [if_pos dr,d]))
    · refine T.eqb (by rw [hfirst]; exact hv) ?_
      refine T.ite (fun d2=>by have:=of_decide_eq_true d2; omega) (fun _=>?_)
      refine go _ (hF _ ?_)
      rw [if_neg (by rw [dr]; exact Bool.false_ne_true),if_pos d,hv]
      rfl
  · have hf1:¬ f=-1:=fun h=>by rw [h] at d; simp at d
    refine T.ite (fun d2=>?_) (fun d2=>by have:=of_decide_eq_false d2; omega)
    refine T.eqb hge ?_
    refine T.eqb (reads_ n e) ?_
    obtain ⟨j,rfl⟩:∃ j:Nat,f=(j:Int):=⟨f.toNat,by omega⟩
    have hj:j<c.Harts.flatten.length:=by omega
    refine T.ite (fun dr=>?_) (fun dr=>?_)
    · refine T.ite (fun d3=>?_) (fun d3=>?_)
      · have hne:¬ ((j:Int)==(k:Int))=true:=fun h=>by
          have h:=eq_of_beq h
          rw [h] at d3
          simp at d3
        obtain ⟨x,hx⟩:∃ x,c.Harts.flatten[j]=x:=⟨_,rfl⟩
        have hgx:getI c.Harts.flatten (j:Int)=some x:=by rw [getI_at rfl hj,hx]
        have hF2:∀ b:Bool,(if wrB x.Kind=true then if (x.Addr==e.Addr)=true then some (x.Store==e.Load) else some false else some false)=some b→cand_from n (Cand.mk c.First c.Harts (c.From.set k (j:Int)) c.Order) c.Harts.flatten (k:Int)=some b:=fun b h=>hF b (by
          rw [if_neg (by rw [dr]; simp),if_neg (by simp),if_neg (fun h=>by have:=of_decide_eq_true h; omega),if_neg (fun h=>by have:=of_decide_eq_true h; omega),if_neg hne,hgx]
          simp only [Option.bind_some]
          rw [eWrites_]
          exact h)
        refine T.eqb hgx ?_
        refine T.eqb (writes_ n x) ?_
        refine T.ite (fun dw=>?_) (fun dw=>?_)
        · refine T.ite (fun da=>?_) (fun da=>?_)
          · exact go _ (hF2 _ (by rw [if_pos dw,if_pos da]))
          · exact go _ (hF2 _ (by rw [if_pos dw,if_neg (by rw [da]; exact Bool.false_ne_true)]))
        · exact go _ (hF2 _ (by rw [if_neg (by rw [dw]; exact Bool.false_ne_true)]))
      · have heq:((j:Int)==(k:Int))=true:=by
          have:(j:Int)=(k:Int):=by simpa using d3
          rw [this]; simp
        refine go _ (hF _ ?_)
        rw [if_neg (by rw [dr]; simp),if_neg (by simp),if_neg (fun h=>by have:=of_decide_eq_true h; omega),if_neg (fun h=>by have:=of_decide_eq_true h; omega),if_pos heq]
    · refine go _ (hF _ ?_)
      rw [if_pos (by rw [dr]; rfl)]
      have:((j:Int)==-1)=false:=by simp
      rw [this]

theorem from_true (c:Cand) (n_ from0:Int):law_CandFrom 1000 c n_ from0=some true:=by
  obtain ⟨r,h1,h2⟩:=from_law 1000 c n_ from0 (by omega)
  rw [h1,h2]

end Go.Proofs.Ytcckeabholabcaa
