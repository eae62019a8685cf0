/- Operations that only compute, or read. Nothing is claimed here of the program. -/
import Derived.Test.YtaekcekecdocnaaK1
namespace Go.Proofs.Ytaekcekecdocnaa
namespace A
open Go
theorem iY {α β:Type} {P:Program} {w:World} {g:α→Sem β} {val:α→β}:∀ (l:List α),(∀ x∈l,(g x).run P w=.ok (val x) w)→(l.mapM g).run P w=.ok (l.map val) w
  | [],_=>by rw [List.mapM_nil]; rfl
  | x::l,h=>by
    rw [List.mapM_cons,Sem.run_bind,h x (by simp),Result.andThen_ok,Sem.run_bind,iY l (fun y hy=>h y (by simp [hy])),Result.andThen_ok]
    rfl
theorem mP {α β:Type} {P:Program} {w:World} {g:α→Sem β} {val:α→β} (l:Array α) (h:∀ x∈l.toList,(g x).run P w=.ok (val x) w):(l.mapM g).run P w=.ok (l.map val) w:=by
  rw [Array.mapM_eq_mapM_toList,Sem.run_map,iY l.toList h]
  show Result.ok _ _=_
  congr 1
  apply Array.ext'
  simp
theorem bg {P:Program} {t:TypeId} {i:TypeInfo} {z:Value} (h:P.info? t=some i) (hz:i.zero=some z) (w:World):(zeroValue t).run P w=.ok z w:=by
  unfold zeroValue
  rw [Sem.run_bind,run_typeInfo w h,Result.andThen_ok,hz]
  rfl
theorem rl {P:Program} {t:TypeId} {ps:List (Nat×AV)} {qs:List (Nat×Value)} {k:AV→Prop} {E:Env} (h:mF P t ps k) (hp:zp E ps qs) (w:World) :
    ∃ r u,k r∧VR E r u∧(Instr.build t qs.toArray).run P w=.ok u w:=by
  unfold mF at h
  replace h:=bf h; obtain ⟨i,z,cs0,hi,hz,hzs,h,hcs⟩:=h
  split at h
  · rename_i fs hu
    replace h:=ab h; obtain ⟨hall,h⟩:=h
    obtain ⟨cs,us,hk,hv,hsz,hf⟩:=fb hp (hcs E) h
    refine ⟨_,.agg us,hk,aO.aggV hv,?_⟩
    have hm:(fs.mapM fun f=>do pure (f.offset,← sizeOf f.type):Sem (Array (Nat×Nat))).run P w=.ok (fs.map fun f=>(f.offset,((P.info? f.type).map (·.size)).getD 0)) w:=by
      refine mP fs (fun f hf=>?_)
      have:=List.all_eq_true.1 hall f hf
      obtain ⟨fi,hfi⟩:=Option.isSome_iff_exists.1 this
      rw [Sem.run_bind,run_sizeOf hfi,hfi]
      rfl
    have hpl:(fun n=>(fs.map fun f=>(f.offset,((P.info? f.type).map (·.size)).getD 0))[n]?)=qa P fs:=by
      funext n
      unfold qa
      rw [Array.getElem?_map]
      cases hn:fs[n]? with
      | none=>rfl
      | some f =>
        have:=List.all_eq_true.1 hall f (by have:=Array.mem_of_getElem? hn; simpa using this)
        obtain ⟨fi,hfi⟩:=Option.isSome_iff_exists.1 this
        simp [hfi]
    unfold Instr.build
    simp only [Sem.run_bind,bg hi hz,Result.andThen_ok,run_underlying hu,Sem.run_pure,hm,hpl,hf]
  · rename_i n e hu
    split at h
    · rename_i ie hie
      obtain ⟨cs,us,hk,hv,hsz,hf⟩:=fb hp (hcs E) h
      refine ⟨_,.agg us,hk,aO.aggV hv,?_⟩
      unfold Instr.build
      simp only [Sem.run_bind,bg hi hz,Result.andThen_ok,run_underlying hu,Sem.run_pure,run_sizeOf hie,hf]
    · exact False.elim h
  · exact False.elim h
theorem gQ {P:Program} {t:TypeId} {x:AV} {f:Nat} {k:AV→Prop} {E:Env} {u:Value} (h:e8 P t x f k) (hx:VR E x u) :
    ∃ r z,k r∧VR E r z∧∀ w,(Instr.fieldAt t u f).run P w=.ok z w:=by
  unfold e8 at h
  split at h
  · rename_i fs hu
    split at h
    · rename_i fl hfl
      split at h
      · rename_i inf hinf
        replace h:=ab h; obtain ⟨hs,h⟩:=h
        have hne:inf.size≠0:=by
          have:=Nat.le_of_ble_eq_true hs
          omega
        have hrun:∀ b o w,(Instr.fieldAt t (.pointer (some ⟨b,o,none⟩)) f).run P w=.ok (.pointer (some ⟨b,o + fl.offset,none⟩)) w:=by
          intro b o w
          unfold Instr.fieldAt Instr.sureAddr fieldPlace
          simp only [Sem.run_bind,run_underlying hu,Result.andThen_ok,hfl,Sem.run_pure,run_sizeOf hinf,if_neg hne,ct]
        split at h
        · rename_i key i j
          cases hx with
          | ptr _ _ hs0 hm=>exact ⟨_,_,h,.ptr i (j + fl.offset) hs0 hm,fun w=>by rw [hrun,Nat.add_assoc]⟩
        · rename_i row j
          cases hx with
          | fptr _ us h1 h2 h3 h4=>exact ⟨_,_,h,.fptr (j + fl.offset) us h1 h2 h3 h4,fun w=>by rw [hrun,Nat.add_assoc]⟩
        · exact False.elim h
      · exact False.elim h
    · exact False.elim h
  · exact False.elim h
theorem rm {P:Program} {t:TypeId} {x:AV} {f:Nat} {k:AV→Prop} {E:Env} {u:Value} (h:mH P t x f k) (hx:VR E x u) (w:World) :
    ∃ r z,k r∧VR E r z∧(Instr.field t u f).run P w=.ok z w:=by
  unfold mH at h
  split at h
  · rename_i fs cs hu
    split at h
    · rename_i fl hfl
      obtain ⟨us,rfl,hus⟩:=hx.aggI
      obtain ⟨r,z,hk,hv,hr⟩:=mO h hus w
      refine ⟨r,z,hk,hv,?_⟩
      unfold Instr.field
      simp only [Sem.run_bind,run_underlying hu,Result.andThen_ok,hfl,asAgg,Sem.run_pure,hr]
    · exact False.elim h
  · exact False.elim h
theorem aI {E:Env} {a:AV} {u:Value} {k:Int→Prop} (h:intOf a k) (hv:VR E a u):∃ kd n,u=.int kd n∧k n:=by
  unfold intOf at h
  split at h
  · exact ⟨_,_,hv.vI.1,h⟩
  · exact False.elim h
theorem rn {P:Program} {t:TypeId} {x ix:AV} {k:AV→Prop} {E:Env} {u v:Value} (h:jj P t x ix k) (hx:VR E x u) (hi:VR E ix v) (w:World) :
    ∃ r z,k r∧VR E r z∧(Instr.index t u v).run P w=.ok z w:=by
  unfold jj at h
  replace h:=aI h hi
  obtain ⟨kd,n,rfl,h⟩:=h
  split at h
  · rename_i len e cs hu
    split at h
    · rename_i inf hinf
      replace h:=ab h; obtain ⟨hb,h⟩:=h
      simp only [Bool.and_eq_true,decide_eq_true_eq] at hb
      obtain ⟨us,rfl,hus⟩:=hx.aggI
      obtain ⟨r,z,hk,hv,hr⟩:=mO h hus w
      refine ⟨r,z,hk,hv,?_⟩
      unfold Instr.index
      simp only [Sem.run_bind,asIntOf,Sem.run_pure,Result.andThen_ok,run_underlying hu,if_pos hb,run_sizeOf hinf,hr]
    · exact False.elim h
  · rename_i s hu
    obtain ⟨rfl,_⟩:=hx.vI
    split at h
    · rename_i b hb
      refine ⟨_,_,h,.v _ _ rfl,?_⟩
      unfold Instr.index
      simp only [Sem.run_bind,asIntOf,Sem.run_pure,Result.andThen_ok,run_underlying hu,hb]
    · exact False.elim h
  · exact False.elim h
theorem uM {P:Program} {ts:Array TypeId} {x:AV} {k:AV→Prop} {E:Env} {u:Value} (h:vK P ts.toList x k) (hx:VR E x u) (ty:TypeId) (w:World) :
    ∃ r z,k r∧VR E r z∧(Builtin.cap_ ts ty #[u]).run P w=.ok z w:=by
  unfold vK at h
  split at h
  · rename_i t l ht
    have ht':ts[0]?=some t:=by rw [← Array.getElem?_toList,ht]; rfl
    split at h
    · rename_i e hu
      split at h
      · cases hx
        exact ⟨_,_,h,.v _ _ rfl,by simp [Builtin.cap_,ht',run_underlying hu,goInt]⟩
      · cases hx <;> exact ⟨_,_,h,.v _ _ rfl,by simp [Builtin.cap_,ht',run_underlying hu,goInt]⟩
      · exact False.elim h
    · exact False.elim h
  · exact False.elim h
theorem uN {C:Ctx} {pl:aD} {o:Oper} {vs:List AV} {k:AV→Prop} {E:Env} {a:Act} (h:pop C pl o vs k) (hs:∀ t len parts,o.op≠.buildSlice t len parts)
    (hv:aO E vs (o.op.operands.toList.map a.eval)) (w:World):∃ r z,k r∧VR E r z∧(execOp a.eval o).run C.P w=.ok (.value z) w:=by
  unfold pop at h
  split at h
  · rename_i x c ho
    rw [ho] at hv
    obtain ⟨u,us,e,hc,hn⟩:=hv.uncons
    simp [Op.operands] at e
    exact ⟨_,_,h,hc,by simp [execOp,ho,e.1]⟩
  · rename_i x c ho
    rw [ho] at hv
    obtain ⟨u,us,e,hc,hn⟩:=hv.uncons
    simp [Op.operands] at e
    exact ⟨_,_,h,hc,by simp [execOp,ho,e.1]⟩
  · rename_i xc xa xb c aa bb ho
    rw [ho] at hv
    obtain ⟨u,us,e,hc,hn⟩:=hv.uncons
    obtain ⟨u1,us1,rfl,hc1,hn1⟩:=hn.uncons
    obtain ⟨u2,us2,rfl,hc2,hn2⟩:=hn1.uncons
    simp [Op.operands] at e
    have e0:=hc.vI.1
    rcases ga h with ⟨rfl,h⟩ | ⟨rfl,h⟩
    · exact ⟨_,_,h,hc1,by simp [execOp,ho,e.1,e0,asBool,e.2.1]⟩
    · exact ⟨_,_,h,hc2,by simp [execOp,ho,e.1,e0,asBool,e.2.2.1]⟩
  · rename_i vs _ _ t parts ho
    rw [ho] at hv
    replace h:=ab h; obtain ⟨hl,h⟩:=h
    have hp:zp E ((parts.toList.map (·.1)).zip vs) (parts.toList.map fun p=>(p.1,a.eval p.2)):=by
      have e1:parts.toList.length=vs.length:=by simpa using Nat.eq_of_beq_eq_true hl
      refine ⟨by rw [List.map_fst_zip (by simp [← e1])]; simp [Function.comp_def],?_⟩
      rw [List.map_snd_zip (by simp [← e1])]
      simpa [Op.operands,Function.comp_def] using hv
    obtain ⟨r,z,hk,hr,hrun⟩:=rl h hp w
    refine ⟨r,z,hk,hr,?_⟩
    have:(parts.map fun (p:Nat×Operand)=>(p.1,a.eval p.2))=(parts.toList.map fun p=>(p.1,a.eval p.2)).toArray:=by
      apply Array.ext'; simp
    simp [execOp,ho,this,hrun]
  · rename_i t len parts ho
    exact absurd ho (hs _ _ _)
  · rename_i x k' i j ho
    rw [ho] at hv
    obtain ⟨u,us,e,hc,hn⟩:=hv.uncons
    simp [Op.operands] at e
    have hc0:=hc
    cases hc with
    | ptr _ _ hs0 hm=>exact ⟨_,_,h,hc0,by simp [execOp,ho,e.1]⟩
  · rename_i x row j ho
    rw [ho] at hv
    obtain ⟨u,us,e,hc,hn⟩:=hv.uncons
    simp [Op.operands] at e
    have hc0:=hc
    cases hc with
    | fptr _ us h1 h2 h3 h4=>exact ⟨_,_,h,hc0,by simp [execOp,ho,e.1]⟩
  · rename_i x f x1 y1 ho
    rw [ho] at hv
    obtain ⟨u,us,e,hc,hn⟩:=hv.uncons
    simp [Op.operands] at e
    have hc0:=hc
    cases hc with
    | fn us ws h1 h2 h3 h4=>exact ⟨_,_,h,hc0,by simp [execOp,ho,e.1]⟩
  · rename_i op t X Y yt x y ho
    rw [ho] at hv
    obtain ⟨u,us,e,hc,hn⟩:=hv.uncons
    obtain ⟨u1,us1,rfl,hc1,hn1⟩:=hn.uncons
    simp [Op.operands] at e
    obtain ⟨r,z,hk,hr,hrun⟩:=mN h hc hc1 w X Y
    refine ⟨r,z,hk,hr,?_⟩
    have:(execOp a.eval o)=(do pure (.value (← (do eqGuard op t X Y u u1; binOp op t u u1:Sem Value)))):=by
      unfold execOp
      rw [ho,← e.1,← e.2.1]
    rw [this,Sem.run_bind,hrun]
    rfl
  · rename_i op t X x ho
    rw [ho] at hv
    obtain ⟨u,us,e,hc,hn⟩:=hv.uncons
    simp [Op.operands] at e
    obtain ⟨r,z,hk,hr,hrun⟩:=uL h hc (P:=C.P) w
    exact ⟨r,z,hk,hr,by simp [execOp,ho,e.1,hrun]⟩
  · rename_i vs _ _ f first cap ho
    rw [ho] at hv
    split at h
    · rename_i fid
      replace h:=ab h; obtain ⟨hl,h⟩:=h
      rw [bM,bM] at h
      have hl':=Nat.eq_of_beq_eq_true hl
      have e1:(o.op.operands.toList.map a.eval)=first.toList.map a.eval++cap.toList.map a.eval:=by rw [ho]; simp [Op.operands]
      rw [ho] at e1
      rw [e1] at hv
      have h1:=hv.take first.size
      have h2:=hv.drop first.size
      rw [List.take_left' (by simp)] at h1
      rw [List.drop_left' (by simp)] at h2
      refine ⟨_,.func (.func fid) (first.map a.eval) (cap.map a.eval),h,.fn _ _ (by simpa using h1.1) (fun m c u hc hu=>h1.2 m c u hc (by simpa using hu)) (by simpa using h2.1) (fun m c u hc hu=>h2.2 m c u hc (by simpa using hu)),?_⟩
      simp [execOp,ho,Instr.makeFunc]
    · exact False.elim h
  · rename_i t x f c ho
    rw [ho] at hv
    obtain ⟨u,us,e,hc,hn⟩:=hv.uncons
    simp [Op.operands] at e
    obtain ⟨r,z,hk,hr,hrun⟩:=gQ h hc
    exact ⟨r,z,hk,hr,by simp [execOp,ho,e.1,hrun w]⟩
  · rename_i t x f c ho
    rw [ho] at hv
    obtain ⟨u,us,e,hc,hn⟩:=hv.uncons
    simp [Op.operands] at e
    obtain ⟨r,z,hk,hr,hrun⟩:=rm h hc w
    exact ⟨r,z,hk,hr,by simp [execOp,ho,e.1,hrun]⟩
  · rename_i t x i c d ho
    rw [ho] at hv
    obtain ⟨u,us,e,hc,hn⟩:=hv.uncons
    obtain ⟨u1,us1,rfl,hc1,hn1⟩:=hn.uncons
    simp [Op.operands] at e
    obtain ⟨r,z,hk,hr,hrun⟩:=rn h hc hc1 w
    exact ⟨r,z,hk,hr,by simp [execOp,ho,e.1,e.2.1,hrun]⟩
  · rename_i x ix xs ho
    rw [ho] at hv
    obtain ⟨u,us,e,hc,hn⟩:=hv.uncons
    simp [Op.operands] at e
    obtain ⟨ws,rfl,hws⟩:=hc.tupI
    obtain ⟨c,hcc,hk⟩:=aY.1 h
    obtain ⟨z,hz,hvz⟩:=hws.get hcc
    rw [Array.getElem?_toList] at hz
    exact ⟨c,z,hk,hvz,by simp [execOp,ho,e.1,Instr.extract,hz]⟩
  · rename_i vs _ _ c ho
    rw [ho] at hv
    split at h
    · rename_i ka m kb n hcal
      replace h:=ab h; obtain ⟨hk,h⟩:=h
      simp only [decide_eq_true_eq] at hk
      subst hk
      obtain ⟨args,he⟩:∃ args,args=c.args.toList:=⟨_,rfl⟩
      obtain ⟨u,us,e,hc,hn⟩:=hv.uncons
      obtain ⟨u1,us1,rfl,hc1,hn1⟩:=hn.uncons
      have hnil:=hn1.unnil
      subst hnil
      obtain ⟨rfl,_⟩:=hc.vI
      obtain ⟨rfl,_⟩:=hc1.vI
      have e':c.args.map a.eval=#[.int ka m,.int ka n]:=by
        apply Array.ext'
        simpa [Op.operands,Call.operands,hcal] using e
      refine ⟨_,_,h,.v _ _ rfl,?_⟩
      simp [execOp,ho,resolve,hcal,e',invoke,builtin,Builtin.min_,Builtin.min2]
    · rename_i ka m kb n hcal
      replace h:=ab h; obtain ⟨hk,h⟩:=h
      simp only [decide_eq_true_eq] at hk
      subst hk
      obtain ⟨u,us,e,hc,hn⟩:=hv.uncons
      obtain ⟨u1,us1,rfl,hc1,hn1⟩:=hn.uncons
      have hnil:=hn1.unnil
      subst hnil
      obtain ⟨rfl,_⟩:=hc.vI
      obtain ⟨rfl,_⟩:=hc1.vI
      have e':c.args.map a.eval=#[.int ka m,.int ka n]:=by
        apply Array.ext'
        simpa [Op.operands,Call.operands,hcal] using e
      refine ⟨_,_,h,.v _ _ rfl,?_⟩
      simp [execOp,ho,resolve,hcal,e',invoke,builtin,Builtin.max_,Builtin.max2]
    · rename_i x hcal
      obtain ⟨u,us,e,hc,hn⟩:=hv.uncons
      have hnil:=hn.unnil
      subst hnil
      have e':c.args.map a.eval=#[u]:=by
        apply Array.ext'
        simpa [Op.operands,Call.operands,hcal] using e
      obtain ⟨r,z,hk,hr,hrun⟩:=uM h hc o.type w
      exact ⟨r,z,hk,hr,by simp [execOp,ho,resolve,hcal,e',invoke,builtin,hrun]⟩
    · exact False.elim h
  · exact False.elim h
open Go.RowKit (Below)
theorem bF {sz:Nat}:∀ {rows:List (List AV)} {i m:Nat} {row:List AV},(∀ r∈rows,r.length=sz)→rows[i]?=some row→m<sz→rows.flatten[i * sz + m]?=row[m]?
  | [],i,m,row,_,h,_=>by simp at h
  | r::rows,0,m,row,hr,h,hm=>by
    simp at h
    subst h
    have:=hr r (by simp)
    simp only [List.flatten_cons,Nat.zero_mul,Nat.zero_add]
    rw [List.getElem?_append_left (by omega)]
  | r::rows,i + 1,m,row,hr,h,hm=>by
    have h0:=hr r (by simp)
    simp only [List.flatten_cons]
    rw [List.getElem?_append_right (by rw [h0,Nat.succ_mul]; omega),show (i + 1) * sz + m - r.length=i * sz + m by rw [h0,Nat.succ_mul]; omega]
    exact bF (fun x hx=>hr x (by simp [hx])) (by simpa using h) hm
theorem aL {sz:Nat}:∀ {rows:List (List AV)},(∀ r∈rows,r.length=sz)→rows.flatten.length=rows.length * sz
  | [],_=>by simp
  | r::rows,h=>by
    have ih:=aL (sz:=sz) (rows:=rows) (fun x hx=>h x (List.mem_cons_of_mem _ hx))
    have h0:=h r List.mem_cons_self
    simp only [List.flatten_cons,List.length_append,List.length_cons,Nat.succ_mul]
    omega
theorem aX.row {E':Env} {h:Array Obj} {rows:List (List AV)} {b o sz i:Nat} {row:List AV} (ha:aX E' h rows b o sz) (hi:rows[i]?=some row) :
    ∃ us:List Value,aO E' row us∧∀ (m:Nat) (x:Value),us[m]?=some x→bq h b (o + i * sz + m)=some x:=by
  obtain ⟨hsz,hr,us,ty,hb,hl,hc⟩:=ha
  have hrow:row.length=sz:=hr row (List.mem_of_getElem? hi)
  have hil:i<rows.length:=(List.getElem?_eq_some_iff.1 hi).1
  have hmul:i * sz + sz≤rows.length * sz:=by rw [← Nat.succ_mul]; exact Nat.mul_le_mul_right sz hil
  refine ⟨(us.toList.drop (o + i * sz)).take sz,⟨by simp [hrow]; omega,fun m c u h1 h2=>?_⟩,fun m x hx=>?_⟩
  · have hm:m<sz:=by rw [← hrow]; exact (List.getElem?_eq_some_iff.1 h1).1
    rw [List.getElem?_take,if_pos hm,List.getElem?_drop,Array.getElem?_toList] at h2
    obtain ⟨u',hu',hv⟩:=hc (i * sz + m) c (by rw [bF hr hi hm]; exact h1)
    rw [show o + i * sz + m=o + (i * sz + m) by omega,hu'] at h2
    cases h2
    exact hv
  · rw [List.getElem?_take] at hx
    split at hx
    · rw [List.getElem?_drop,Array.getElem?_toList] at hx
      unfold bq
      rw [hb]
      exact hx
    · cases hx
section
variable {G:Gh} {p:Nat→Option (List AV)} {E:Env} {M:St} {w:World}
theorem mQ {k:List AV→Prop} {key:Key} {i:Nat} {b o sz n:Nat} (hM:ad G p E M w) (hm:E.mu key=some (.blk b o sz n)) (h:om M key i k) :
    ∃ row us,k row∧aO E row us∧∀ (m:Nat) (x:Value),us[m]?=some x→bq w.heap b (o + i * sz + m)=some x:=by
  unfold om at h
  split at h
  · rename_i d
    split at h
    · rename_i row hl
      split at h
      · have:=hM.loc d
        rw [hl] at this
        rcases this with ⟨b',h1,h2⟩ | ⟨h1,_⟩
        · rw [hm] at h1
          cases h1
          obtain ⟨us,hu,hc⟩:=h2.row (i:=0) rfl
          exact ⟨row,us,h,hu,by simpa [hM.hp] using hc⟩
        · rw [hm] at h1; cases h1
      · exact False.elim h
    · exact False.elim h
  · rename_i id
    split at h
    · rename_i fl sz' rows ho
      split at h
      · rename_i row hr
        have:=hM.obj id
        rw [ho,hm] at this
        obtain ⟨h1,h2⟩:=this
        obtain ⟨us,hu,hc⟩:=h2.row hr
        refine ⟨row,us,h,?_,by rw [← hM.hp]; exact hc⟩
        cases fl with
        | true=>exact hu.of_fz
        | false=>exact hu.of_ob
      · exact False.elim h
    · exact False.elim h
  · exact False.elim h
theorem pe {k:List AV→Nat→Prop} {a:AV} {u:Value} (hM:ad G p E M w) (hv:VR E a u) (h:vC M a k) :
    ∃ row j us b o,k row j∧u=.pointer (some ⟨b,o + j,none⟩)∧aO E row us∧∀ (m:Nat) (x:Value),us[m]?=some x→bq w.heap b (o + m)=some x:=by
  unfold vC at h
  split at h
  · rename_i key i j
    cases hv with
    | ptr _ _ hs0 hm =>
      obtain ⟨row,us,hk,hu,hc⟩:=mQ hM hm h
      exact ⟨row,j,us,_,_,hk,rfl,hu,hc⟩
  · rename_i row j
    cases hv with
    | fptr _ us h1 h2 h3 h4=>exact ⟨_,j,us,_,_,h,rfl,aO.of_fz ⟨h1.symm,h2⟩,by rw [← hM.hp]; exact h4⟩
  · exact False.elim h
theorem ad.below {w':World} {F':Nat→Prop} (hM:ad G p E M w) (hb:Below w.heap.size w w') (hF:∀ b,E.F b→F' b) (hlt:∀ b,F' b→b<w'.heap.size)
    (hnew:∀ b,F' b→b<w.heap.size→E.F b):LE E ⟨F',E.mu,w'.heap⟩∧ad G p ⟨F',E.mu,w'.heap⟩ M w':=by
  have hle:LE E ⟨F',E.mu,w'.heap⟩:=by
    refine ⟨hF,fun _ _ _ h=>h,fun b h=>by rw [hM.hp]; exact hb.block b (hM.Flt b h),fun k b o s n _ h=>?_⟩
    unfold au
    rw [hM.hp]
    rw [hb.block b (hM.own k b o s n h).2.1]
  have hblk:∀ k b o s n,E.mu k=some (.blk b o s n)→w'.heap[b]?=E.h[b]?:=fun k b o s n h=>by rw [hM.hp]; exact hb.block b (hM.own k b o s n h).2.1
  refine ⟨hle,?_⟩
  refine ⟨rfl,hb.os.trans hM.os,hb.tape.trans hM.tape,hb.output.trans hM.output,Nat.le_trans hM.size hb.size,fun b h1 h2=>?_,fun b h=>hF b (hM.F0 b h),hlt,fun b h1 h2=>hM.Fnew b (hnew b h1 (Nat.lt_of_lt_of_le h2 hM.size)) h2,
    fun k b o s n h=>?_,hM.inj,fun d=>?_,fun id=>?_,hM.old,hM.bl,fun b' hb'=>(by
    rw [← hM.szs b' hb']
    unfold au
    rw [hb.block b' (Nat.lt_of_lt_of_le hb' hM.size)]),hM.pk,fun id=>(hM.ow id).mono rfl (fun _=>rfl) hle.fz hle.ob (fun k b o s n _ h=>hblk k b o s n h)⟩
  · rw [hb.block b (Nat.lt_of_lt_of_le h1 hM.size)]
    exact hM.keep b h1 h2
  · obtain ⟨h1,h2,h3⟩:=hM.own k b o s n h
    exact ⟨fun hf=>h1 (hnew b hf h2),Nat.lt_of_lt_of_le h2 hb.size,h3⟩
  · have:=hM.loc d
    revert this
    cases ap M.l d with
    | none=>exact fun h=>h
    | some row =>
      rintro (⟨b,h1,h2,h3,us,ty,h4,h5,h6⟩ | h)
      · refine .inl ⟨b,h1,h2,h3,us,ty,(hblk _ _ _ _ _ h1).trans h4,h5,fun m c hc=>?_⟩
        obtain ⟨u,hu,hv⟩:=h6 m c hc
        exact ⟨u,hu,hv.mono hle⟩
      · exact .inr h
  · have:=hM.obj id
    revert this
    cases M.o[id]? with
    | none =>
      show b9 E _ (E.mu (.O id))→b9 _ _ (E.mu (.O id))
      cases E.mu (.O id) <;> exact fun h=>h
    | some ob =>
      cases ob with
      | dead =>
        show b9 E _ (E.mu (.O id))→b9 _ _ (E.mu (.O id))
        cases E.mu (.O id) <;> exact fun h=>h
      | arr fl sz rows =>
        show b9 E _ (E.mu (.O id))→b9 _ _ (E.mu (.O id))
        cases hm:E.mu (.O id) with
        | none=>exact fun h=>h
        | some mv =>
          cases mv with
          | virt=>exact fun h=>h
          | blk b o s n =>
            rintro ⟨h1,h2,h3,us,ty,h4,h5,h6⟩
            refine ⟨h1,h2,h3,us,ty,(hblk _ _ _ _ _ hm).trans h4,h5,fun m c hc=>?_⟩
            obtain ⟨u,hu,hv⟩:=h6 m c hc
            refine ⟨u,hu,?_⟩
            cases fl with
            | true=>exact hv.mono hle.fz
            | false=>exact hv.mono hle.ob
      | lp pl ps t asg body st =>
        show b9 E _ (E.mu (.O id))→b9 _ _ (E.mu (.O id))
        cases hm:E.mu (.O id) with
        | none=>exact fun h=>h
        | some mv =>
          cases mv with
          | virt=>exact fun h=>h
          | blk b o s n =>
            rintro ⟨r,h1,h2⟩
            exact ⟨r,(hblk _ _ _ _ _ hm).trans h1,h2.mono hle.ob⟩
      | own _ _ _ _ =>
        show b9 E _ (E.mu (.O id))→b9 _ _ (E.mu (.O id))
        cases E.mu (.O id) with
        | none=>exact fun h=>h.elim
        | some mv=>cases mv <;> exact fun h=>h
      | mapo fl es =>
        show b9 E _ (E.mu (.O id))→b9 _ _ (E.mu (.O id))
        cases hm:E.mu (.O id) with
        | none=>exact fun h=>h
        | some mv =>
          cases mv with
          | virt=>exact fun h=>h
          | blk b o s n =>
            rintro ⟨ms,clock,h1,h2,h3⟩
            refine ⟨ms,clock,(hblk _ _ _ _ _ hm).trans h1,h2,fun i e m h4 h5=>?_⟩
            obtain ⟨h6,h7⟩:=h3 i e m h4 h5
            refine ⟨h6,?_⟩
            cases fl with
            | true=>exact h7.mono hle.fz
            | false=>exact h7.mono hle.ob
end
def FD (E:Env) (ids:List Nat):Nat→Prop:=fun b=>E.F b∨∃ id,id∈ids∧∃ o s n,E.mu (.O id)=some (.blk b o s n)
def Env.fd (E:Env) (ids:List Nat):Env:=⟨FD E ids,fun _=>none,E.h⟩
theorem yR {E:Env} {ids:List Nat}:LE E.fz (E.fd ids):=⟨fun _ h=>.inl h,fun _ _ _ h=>(by cases h),fun _ _=>rfl,fun _ _ _ _ _ _ h=>(by cases h)⟩
theorem ql {E:Env} {ids:List Nat}:LE E.fz (E.fd ids).fz:=LE.fz (E:=E.fz) yR
theorem eQ {α β:Type} {f:α→Option β}:∀ {xs:List α} {ys:List β},et f xs=some ys→ys.length=xs.length∧∀ (m:Nat) (x:α) (y:β),xs[m]?=some x→ys[m]?=some y→f x=some y
  | [],ys,h=>by
    simp only [et,Option.some.injEq] at h
    subst h
    exact ⟨rfl,fun m x y h=>by simp at h⟩
  | x::xs,ys,h=>by
    unfold et at h
    split at h
    · rename_i y ys' h1 h2
      simp only [Option.some.injEq] at h
      subst h
      obtain ⟨h3,h4⟩:=eQ h2
      refine ⟨by simp [h3],fun m x' y' h5 h6=>?_⟩
      cases m with
      | zero=>simp at h5 h6; subst h5 h6; exact h1
      | succ m=>exact h4 m x' y' (by simpa using h5) (by simpa using h6)
    · cases h
theorem aX.mono {E1 E2:Env} {h:Array Obj} {rows:List (List AV)} {b o sz:Nat} (ha:aX E1 h rows b o sz) (hl:LE E1 E2):aX E2 h rows b o sz:=by
  obtain ⟨h1,h2,us,ty,h3,h4,h5⟩:=ha
  refine ⟨h1,h2,us,ty,h3,h4,fun m c hc=>?_⟩
  obtain ⟨u,hu,hv⟩:=h5 m c hc
  exact ⟨u,hu,hv.mono hl⟩
theorem aX.sub {E':Env} {h:Array Obj} {rows:List (List AV)} {b o sz:Nat} (ha:aX E' h rows b o sz) (off len:Nat):aX E' h ((rows.drop off).take len) b (o + off * sz) sz∨(rows.drop off).take len=[]:=by
  obtain ⟨hsz,hr,us,ty,hb,hl,hc⟩:=ha
  by_cases hne:(rows.drop off).take len=[]
  · exact .inr hne
  have hr':∀ r∈(rows.drop off).take len,r.length=sz:=fun r hx=>hr r (List.mem_of_mem_drop (List.mem_of_mem_take hx))
  have hlen:off + ((rows.drop off).take len).length≤rows.length:=by
    have h1:0<((rows.drop off).take len).length:=List.length_pos_iff.2 hne
    simp only [List.length_take,List.length_drop] at h1 ⊢
    omega
  have hmul:off * sz + ((rows.drop off).take len).length * sz≤rows.length * sz:=by rw [← Nat.add_mul]; exact Nat.mul_le_mul_right sz hlen
  refine .inl ⟨hsz,hr',us,ty,hb,by omega,fun m c hm=>?_⟩
  have hml:m<((rows.drop off).take len).length * sz:=by rw [← aL hr']; exact (List.getElem?_eq_some_iff.1 hm).1
  have hi:m / sz<((rows.drop off).take len).length:=Nat.div_lt_of_lt_mul (by rw [Nat.mul_comm]; exact hml)
  have hmm:m % sz<sz:=Nat.mod_lt _ hsz
  have hdm:m / sz * sz + m % sz=m:=by rw [Nat.mul_comm]; exact Nat.div_add_mod m sz
  have hrow:((rows.drop off).take len)[m / sz]?=some (((rows.drop off).take len)[m / sz]):=List.getElem?_eq_getElem hi
  have e1:=bF hr' hrow hmm
  have hrow2:rows[off + m / sz]?=some (((rows.drop off).take len)[m / sz]):=by
    rw [← hrow,List.getElem?_take,if_pos (by simp only [List.length_take] at hi; omega),List.getElem?_drop]
  have e2:=bF hr hrow2 hmm
  rw [hdm] at e1
  rw [Nat.add_mul,Nat.add_assoc,hdm] at e2
  obtain ⟨u,hu,hv⟩:=hc (off * sz + m) c (by rw [e2,← e1]; exact hm)
  exact ⟨u,by rw [← hu]; congr 1; omega,hv⟩
theorem aX.sl {E':Env} {rows:List (List AV)} {b o sz cap:Nat} (ha:aX E'.fz E'.h rows b o sz) (hF:E'.F b) (hcap:rows.length≤cap):VR E' (.sl rows) (.slice (some ⟨b,o,none⟩) rows.length cap):=by
  cases rows with
  | nil=>exact .sle _ _ _
  | cons r rs =>
    obtain ⟨hsz,hr,us,ty,hb,hl,hc⟩:=ha
    have hfl:=aL hr
    have hlen:((us.toList.drop o).take ((r::rs).length * sz)).length=(r::rs).flatten.length:=by
      have e:us.toList.length=us.size:=by simp
      have hl':o + (r::rs).length * sz≤us.toList.length:=by rw [e]; exact hl
      rw [hfl,List.length_take,List.length_drop]
      exact Nat.min_eq_left (by omega)
    refine .sl ((us.toList.drop o).take ((r::rs).length * sz)) hsz hr hlen (fun m c u h1 h2=>?_) hF (fun m u hu=>?_) hcap
    · have hm:m<(r::rs).length * sz:=by rw [← hfl]; exact (List.getElem?_eq_some_iff.1 h1).1
      rw [List.getElem?_take,if_pos hm,List.getElem?_drop,Array.getElem?_toList] at h2
      obtain ⟨u',hu',hv⟩:=hc m c h1
      rw [hu'] at h2
      cases h2
      exact hv
    · rw [List.getElem?_take] at hu
      split at hu
      · rw [List.getElem?_drop,Array.getElem?_toList] at hu
        unfold bq
        rw [hb]
        exact hu
      · cases hu
section
variable {G:Gh} {p:Nat→Option (List AV)} {E:Env} {M:St} {w:World}
theorem lx {α β:Type} {f:α→Option β}:∀ {xs ys:List α} {xs' ys':List β},et f xs=some xs'→et f ys=some ys'→et f (xs++ys)=some (xs'++ys')
  | [],ys,xs',ys',h1,h2=>by
    simp only [et,Option.some.injEq] at h1
    subst h1
    exact h2
  | x::xs,ys,xs',ys',h1,h2=>by
    unfold et at h1
    split at h1
    · rename_i y zs h3 h4
      cases h1
      show et f (x::(xs++ys))=_
      unfold et
      rw [h3,lx h4 h2]
      rfl
    · cases h1
theorem pf {α β:Type} {f:α→Option β}:∀ {rows:List (List α)} {rows':List (List β)},et (et f) rows=some rows'→et f rows.flatten=some rows'.flatten
  | [],rows',h=>by
    simp only [et,Option.some.injEq] at h
    subst h
    rfl
  | r::rs,rows',h=>by
    unfold et at h
    split at h
    · rename_i y ys h1 h2
      cases h
      exact lx h1 (pf h2)
    · cases h
theorem aX.fzd {rows rows':List (List AV)} {b off sz:Nat} {fl:Bool} {f:AV→Option AV} {ids:List Nat} (ha:aX (a6 E fl) E.h rows b off sz) (hr:kL f fl rows=some rows')
    (ih:∀ c c' u,fl=false→c∈rows.flatten→f c=some c'→VR E c u→VR (E.fd ids) c' u):aX (E.fd ids).fz E.h rows' b off sz∧rows'.length=rows.length:=by
  unfold kL at hr
  split at hr
  · cases hr
    exact ⟨ha.mono ql,rfl⟩
  · obtain ⟨h1,h2,us,ty,h3,h4,h5⟩:=ha
    obtain ⟨h6,h7⟩:=eQ hr
    obtain ⟨h8,h9⟩:=eQ (pf hr)
    refine ⟨⟨h1,fun r' hr'=>?_,us,ty,h3,by rw [h6]; exact h4,fun m c' hc'=>?_⟩,h6⟩
    · obtain ⟨m,hm,hmr⟩:=List.getElem_of_mem hr'
      have hml:m<rows.length:=by rw [← h6]; exact hm
      have:=h7 m _ _ (List.getElem?_eq_getElem hml) (by rw [List.getElem?_eq_getElem hm,hmr])
      obtain ⟨h10,_⟩:=eQ this
      rw [h10]
      exact h2 _ (List.getElem_mem hml)
    · have hml:m<rows.flatten.length:=by rw [← h8]; exact (List.getElem?_eq_some_iff.1 hc').1
      have hc:=List.getElem?_eq_getElem hml
      obtain ⟨u,hu,hv⟩:=h5 m _ hc
      exact ⟨u,hu,ih _ _ u rfl (List.getElem_mem hml) (h9 m _ _ hc hc') (VR.of_ob hv)⟩
theorem cX (hM:ad G p E M w):∀ (n:Nat) {a b:AV} {u:Value},sK M.o n a=some b→VR E a u→∀ {ids:List Nat},(∀ i∈bE M.o n a,i∈ids)→VR (E.fd ids) b u
  | 0,_,_,_,h,_,_,_=>by cases h
  | n + 1,a,b,u,h,hv,ids,hid=>by
    have km:∀ {xs ys:List AV} {us:Array Value},et (sK M.o n) xs=some ys→xs.length=us.size→(∀ (m:Nat) (c:AV) (u:Value),xs[m]?=some c→us[m]?=some u→VR E c u) →
        (∀ i∈xs.flatMap (bE M.o n),i∈ids)→ys.length=us.size∧∀ (m:Nat) (c:AV) (u:Value),ys[m]?=some c→us[m]?=some u→VR (E.fd ids) c u:=by
      intro xs ys us h1 h2 h3 h4
      obtain ⟨h5,h6⟩:=eQ h1
      refine ⟨h5.trans h2,fun m c u hc hu=>?_⟩
      have hm:m<xs.length:=by rw [← h5]; exact (List.getElem?_eq_some_iff.1 hc).1
      have hx:=List.getElem?_eq_getElem hm
      exact cX hM n (h6 m _ c hx hc) (h3 m _ u hx hu) (fun i hi=>h4 i (List.mem_flatMap.2 ⟨_,List.getElem_mem hm,hi⟩))
    unfold sK at h
    split at h
    · cases h; obtain ⟨rfl,hp⟩:=hv.vI; exact .v _ _ hp
    · cases h; cases hv; exact .nilp _
    · rename_i row j
      cases h
      cases hv with
      | fptr _ us h1 h2 h3 h4=>exact .fptr j us h1 (fun m c u hc hu=>(h2 m c u hc hu).mono ql) (.inl h3) h4
    · cases h; cases hv; exact .nilsl _
    · cases h
      cases hv with
      | esln=>exact .sln _
      | esl _ a=>exact .sle _ a 0
    · cases h
      cases hv with
      | sln=>exact .sln _
      | sle _ a cap=>exact .sle _ a cap
      | sl us h1 h2 h3 h4 h5 h6 h7=>exact .sl us h1 h2 h3 (fun m c u hc hu=>(h4 m c u hc hu).mono ql) (.inl h5) h6 h7
    · cases h; cases hv; exact .nilmap _
    · cases h; cases hv; exact .nilfn _
    · rename_i id
      split at h
      · rename_i fl sz' rows ho
        split at h
        · rename_i rows' hrw
          cases h
          have hob:=hM.obj id
          rw [ho] at hob
          have ih:∀ c c' u,fl=false→c∈rows.flatten→sK M.o n c=some c'→VR E c u→VR (E.fd ids) c' u:=fun c c' u hfl hc hd hvc =>
            cX hM n hd hvc (fun i hi=>hid i (by
              show i∈bE M.o (n + 1) (.mf id)
              unfold bE
              dsimp only
              rw [ho,hfl]
              exact List.mem_cons_of_mem _ (List.mem_flatMap.2 ⟨c,hc,hi⟩)))
          have nilrows:rows=[]→rows'=[]:=fun e=>by
            subst e
            unfold kL at hrw
            split at hrw
            · cases hrw; rfl
            · simp only [et,Option.some.injEq] at hrw; exact hrw.symm
          cases hv with
          | mfn hm=>rw [hm] at hob; have hr:rows=[]:=hob; rw [nilrows hr]; exact .sln _
          | mfe a hm=>rw [hm] at hob; have hr:rows=[]:=hob; rw [nilrows hr]; exact .sle _ a 0
          | mf cap hm h1 h2 =>
            rw [hm] at hob
            obtain ⟨⟨rfl,rfl⟩,ha⟩:=hob
            obtain ⟨ha',hl⟩:=ha.fzd hrw ih
            have:=aX.sl (E':=E.fd ids) (cap:=cap) ha' (.inr ⟨id,hid id (by unfold bE; exact List.mem_cons_self),_,_,_,hm⟩) (by omega)
            rw [hl] at this
            exact this
        · cases h
      · cases h
    · rename_i id off len ext
      split at h
      · rename_i fl sz' rows ho
        split at h
        · rename_i rows' hrw
          cases h
          have hob:=hM.obj id
          rw [ho] at hob
          have ih:∀ c c' u,fl=false→c∈((rows.drop off).take len).flatten→sK M.o n c=some c'→VR E c u→VR (E.fd ids) c' u:=fun c c' u hfl hc hd hvc =>
            cX hM n hd hvc (fun i hi=>hid i (by
              show i∈bE M.o (n + 1) (.msl id off len ext)
              unfold bE
              dsimp only
              rw [ho,hfl]
              exact List.mem_cons_of_mem _ (List.mem_flatMap.2 ⟨c,hc,hi⟩)))
          have nilrows:(rows.drop off).take len=[]→rows'=[]:=fun e=>by
            rw [e] at hrw
            unfold kL at hrw
            split at hrw
            · cases hrw; rfl
            · simp only [et,Option.some.injEq] at hrw; exact hrw.symm
          cases hv with
          | msle off a hm =>
            rw [nilrows (List.take_zero ..)]
            cases a with
            | none=>exact .sln _
            | some a=>exact .sle _ a 0
          | msl off len ext cap hm h1 h2 h3 =>
            rw [hm] at hob
            obtain ⟨⟨rfl,rfl⟩,ha⟩:=hob
            have hl:((rows.drop off).take len).length=len:=by simp; omega
            rcases ha.sub off len with hs | hs
            · obtain ⟨ha',hl'⟩:=hs.fzd hrw ih
              have:=aX.sl (E':=E.fd ids) (cap:=cap) ha' (.inr ⟨id,hid id (by unfold bE; exact List.mem_cons_self),_,_,_,hm⟩) (by omega)
              rw [hl',hl] at this
              exact this
            · have hl0:len=0:=by rw [hs] at hl; simpa using hl.symm
              subst hl0
              rw [nilrows hs]
              exact .sle _ _ _
        · cases h
      · cases h
    · rename_i id i j
      split at h
      · rename_i fl sz' rows ho
        split at h
        · rename_i row hr
          split at h
          · rename_i row' hrw
            cases h
            cases hv with
            | ptr i j hs0 hm =>
              have hob:=hM.obj id
              rw [ho,hm] at hob
              obtain ⟨⟨rfl,rfl⟩,ha⟩:=hob
              obtain ⟨us,hu,hc⟩:=ha.row hr
              have hrow:row'.length=row.length∧∀ (m:Nat) (c:AV) (u:Value),row'[m]?=some c→us[m]?=some u→VR (E.fd ids).fz c u:=by
                unfold xI at hrw
                split at hrw
                · cases hrw
                  exact ⟨rfl,fun m c u h1 h2=>(hu.2 m c u h1 h2).mono ql⟩
                · obtain ⟨h6,h7⟩:=eQ hrw
                  refine ⟨h6,fun m c' u h1 h2=>?_⟩
                  have hml:m<row.length:=by rw [← h6]; exact (List.getElem?_eq_some_iff.1 h1).1
                  have hcm:=List.getElem?_eq_getElem hml
                  exact cX hM n (h7 m _ _ hcm h1) (VR.of_ob (hu.2 m _ u hcm h2)) (fun k hk=>hid k (by
                    show k∈bE M.o (n + 1) (.ptr (.O id) i j)
                    unfold bE
                    dsimp only
                    rw [ho]
                    dsimp only
                    rw [hr]
                    exact List.mem_cons_of_mem _ (List.mem_flatMap.2 ⟨_,List.getElem_mem hml,hk⟩)))
              exact .fptr j us (by rw [hrow.1]; exact hu.1.symm) hrow.2 (.inr ⟨id,hid id (by unfold bE; exact List.mem_cons_self),_,_,_,hm⟩) hc
          · cases h
        · cases h
      · cases h
    · rename_i f x y
      split at h
      · rename_i x' y' h1 h2
        cases h
        cases hv with
        | fn us ws h3 h4 h5 h6 =>
          obtain ⟨h7,h8⟩:=km h1 h3 h4 (fun i hi=>hid i (by simp [bE]; exact .inl (by simpa using hi)))
          obtain ⟨h9,h10⟩:=km h2 h5 h6 (fun i hi=>hid i (by simp [bE]; exact .inr (by simpa using hi)))
          exact .fn us ws h7 h8 h9 h10
      · cases h
    · split at h
      · rename_i r h1
        cases h
        cases hv with
        | agg us h3 h4 =>
          obtain ⟨h7,h8⟩:=km h1 h3 h4 (fun i hi=>hid i (by simpa [bE] using hi))
          exact .agg us h7 h8
      · cases h
    · split at h
      · rename_i r h1
        cases h
        cases hv with
        | tup us h3 h4 =>
          obtain ⟨h7,h8⟩:=km h1 h3 h4 (fun i hi=>hid i (by simpa [bE] using hi))
          exact .tup us h7 h8
      · cases h
    · cases h
theorem ly (hM:ad G p E M w) {k:List AV→Prop}:∀ {as:List AV} {us:List Value},aO E as us→dV M.o as k→∃ bs,k bs∧∀ {ids:List Nat},(∀ i∈as.flatMap (bE M.o 6),i∈ids)→aO (E.fd ids) bs us
  | [],us,hv,h=>⟨[],h,fun _=>by rw [hv.unnil]; exact .nil _⟩
  | a::as,us,hv,h=>by
    obtain ⟨u,us',rfl,h1,h2⟩:=hv.uncons
    unfold dV qb at h
    split at h
    · rename_i b hb
      rw [aQ] at h
      obtain ⟨bs,hk,hbs⟩:=ly hM (k:=fun bs=>k (b::bs)) h2 h
      refine ⟨b::bs,hk,fun {ids} hids=>.cons (cX hM 6 hb h1 (fun i hi=>hids i (by simp [hi]))) (hbs (fun i hi=>hids i (by
        rw [List.flatMap_cons]
        exact List.mem_append.2 (.inr hi))))⟩
    · exact False.elim h
theorem vW (hM:ad G p E M w) {ids:List Nat}:∀ b,FD E ids b→b<w.heap.size
  | b,.inl h=>hM.Flt b h
  | b,.inr ⟨_,_,o,s,n,h⟩=>(hM.own _ b o s n h).2.1
end
section
variable {G:Gh} {p:Nat→Option (List AV)} {E:Env} {M:St} {w:World} {P:Program}
theorem cj (hM:ad G p E M w) {id:Nat} {fl:Bool} {sz:Nat} {rows:List (List AV)} (ho:M.o[id]?=some (.arr fl sz rows)) :
    (E.mu (.O id)=some .virt∧rows=[])∨∃ b o,E.mu (.O id)=some (.blk b o sz rows.length)∧aX (a6 E fl) E.h rows b o sz:=by
  have:=hM.obj id
  rw [ho] at this
  revert this
  cases hm:E.mu (.O id) with
  | none=>exact fun h=>h.elim
  | some mv =>
    cases mv with
    | virt=>exact fun h=>.inl ⟨rfl,h⟩
    | blk b o s n =>
      rintro ⟨⟨rfl,rfl⟩,h⟩
      exact .inr ⟨b,o,rfl,h⟩
theorem uO (hM:ad G p E M w) {t:TypeId} {x:AV} {u:Value} {k:AV→Prop} (h:vJ P t M x k) (hx:VR E x u) {ts:Array TypeId} (ht:ts[0]?=some t) (ty:TypeId) :
    ∃ r z,k r∧VR E r z∧(Builtin.len_ ts ty #[u]).run P w=.ok z w:=by
  have slc:∀ {e:TypeId} {A:Option Addr} {n c:Nat},P.underlying t=some (.slice e)→(Builtin.len_ ts ty #[.slice A n c]).run P w=.ok (.int .i64 n) w:=by
    intro e A n c hu
    simp [Builtin.len_,ht,run_underlying hu,goInt]
  unfold vJ at h
  split at h
  · rename_i e hu
    split at h
    · cases hx; exact ⟨_,_,h,.v _ _ rfl,slc hu⟩
    · cases hx <;> exact ⟨_,_,h,.v _ _ rfl,slc hu⟩
    · cases hx <;> exact ⟨_,_,h,.v _ _ rfl,slc hu⟩
    · rename_i id
      split at h
      · rename_i fl sz rows ho
        rcases cj hM ho with ⟨h1,h2⟩ | ⟨b,o,h1,h2⟩
        · subst h2
          cases hx with
          | mfn hm=>exact ⟨_,_,h,.v _ _ rfl,slc hu⟩
          | mfe a hm=>exact ⟨_,_,h,.v _ _ rfl,slc hu⟩
          | mf cap hm _ _=>rw [h1] at hm; cases hm
        · cases hx with
          | mfn hm=>rw [h1] at hm; cases hm
          | mfe a hm=>rw [h1] at hm; cases hm
          | mf cap hm _ _ =>
            rw [h1] at hm
            cases hm
            exact ⟨_,_,h,.v _ _ rfl,slc hu⟩
      · rename_i sz cells hole ho
        have hob:=hM.obj id
        rw [ho] at hob
        cases hx with
        | mfn hm =>
          rw [hm] at hob
          have hob:cells=[]:=hob.2
          subst hob
          exact ⟨_,_,h,.v _ _ rfl,slc hu⟩
        | mfe a hm =>
          rw [hm] at hob
          have hob:cells=[]:=hob.2
          subst hob
          exact ⟨_,_,h,.v _ _ rfl,slc hu⟩
        | mf cap hm _ _ =>
          rw [hm] at hob
          obtain ⟨_,e2⟩:=hob rfl
          subst e2
          exact ⟨_,_,h,.v _ _ rfl,slc hu⟩
      · exact False.elim h
    · cases hx <;> exact ⟨_,_,h,.v _ _ rfl,slc hu⟩
    · cases hx <;> exact ⟨_,_,h,.v _ _ rfl,slc hu⟩
    · exact False.elim h
  · rename_i hu
    split at h
    · rename_i s
      obtain ⟨rfl,_⟩:=hx.vI
      exact ⟨_,_,h,.v _ _ rfl,by simp [Builtin.len_,ht,run_underlying hu,goInt]⟩
    · exact False.elim h
  · rename_i n e hu
    exact ⟨_,_,h,.v _ _ rfl,by
      unfold Builtin.len_
      simp only [ht,List.getElem?_toArray,List.getElem?_cons_zero,Sem.run_bind,run_underlying hu,Result.andThen_ok]
      cases u <;> rfl⟩
  · rename_i ke e hu
    split at h
    · cases hx; exact ⟨_,_,h,.v _ _ rfl,by simp [Builtin.len_,ht,run_underlying hu,goInt]⟩
    · rename_i id
      split at h
      · rename_i fl es ho
        have hob:=hM.obj id
        rw [ho] at hob
        cases hx with
        | mp hm =>
          rw [hm] at hob
          obtain ⟨ms,clock,h1,⟨h2,_⟩,h3⟩:=hob
          rw [hM.hp] at h1
          refine ⟨_,_,h,.v _ _ rfl,?_⟩
          have hg:∀ b,w.heap[b]?=some (.map ms clock)→(getObj b).run P w=.ok (.map ms clock) w:=fun b hb=>by
            simp [getObj,Sem.run,hb]
          simp [Builtin.len_,ht,run_underlying hu,hg _ h1,goInt,h2]
      · exact False.elim h
    · exact False.elim h
  · exact False.elim h
theorem l5 (hM:ad G p E M w) {t:TypeId} {x ix:AV} {u v:Value} {k:AV→Prop} (h:dp P t x ix M k) (hx:VR E x u) (hi:VR E ix v) :
    ∃ r z,k r∧VR E r z∧(Instr.indexAt t u v).run P w=.ok z w:=by
  unfold dp at h
  replace h:=aI h hi
  obtain ⟨kd,i,rfl,h⟩:=h
  have run:∀ {e:TypeId} {inf:TypeInfo} {b o n c:Nat},P.underlying t=some (.slice e)→P.info? e=some inf→0≤i→i<n →
      (Instr.indexAt t (.slice (some ⟨b,o,none⟩) n c) (.int kd i)).run P w=.ok (.pointer (some ⟨b,o + i.toNat * inf.size,none⟩)) w:=by
    intro e inf b o n c hu hinf h0 hn
    unfold Instr.indexAt
    simp only [asIntOf,Sem.run_bind,Sem.run_pure,Result.andThen_ok,run_underlying hu,if_pos (And.intro h0 hn),run_sizeOf hinf,ct]
  split at h
  · rename_i e hu
    split at h
    · rename_i inf hinf
      split at h
      · rename_i rows
        split at h
        · rename_i row hrow
          replace h:=ab h
          obtain ⟨hb,h⟩:=h
          simp only [Bool.and_eq_true] at hb
          have hsz:=Nat.eq_of_beq_eq_true hb.1
          split at hrow
          · rename_i h0
            cases hx with
            | sln=>simp at hrow
            | sle a cap=>simp at hrow
            | sl us h1 h2 h3 h4 h5 h6 h7 =>
              rename_i sz b o cap
              have hlt:i.toNat<rows.length:=(List.getElem?_eq_some_iff.1 hrow).1
              have hrl:row.length=sz:=h2 row (List.mem_of_getElem? hrow)
              have hmul:i.toNat * sz + sz≤rows.length * sz:=by rw [← Nat.succ_mul]; exact Nat.mul_le_mul_right sz hlt
              have hfl:=aL h2
              refine ⟨_,_,h,.fptr 0 ((us.drop (i.toNat * sz)).take sz) (by rw [List.length_take,List.length_drop,h3,hfl,hrl]; exact Nat.min_eq_left (by omega)) (fun m c u hc hu'=>?_) h5 (fun m u hu'=>?_),by rw [run hu hinf h0 (by omega)]; rw [← hsz,hrl,Nat.add_zero]⟩
              · have hm:m<sz:=by rw [← hrl]; exact (List.getElem?_eq_some_iff.1 hc).1
                rw [List.getElem?_take,if_pos hm,List.getElem?_drop] at hu'
                exact h4 _ c u (by rw [bF h2 hrow hm]; exact hc) hu'
              · rw [List.getElem?_take] at hu'
                split at hu'
                · rw [List.getElem?_drop] at hu'
                  rw [Nat.add_assoc]
                  exact h6 _ u hu'
                · cases hu'
          · cases hrow
        · exact False.elim h
      · rename_i id
        split at h
        · rename_i fl sz rows ho
          split at h
          · rename_i row hrow
            replace h:=ab h
            obtain ⟨hb,h⟩:=h
            simp only [Bool.and_eq_true] at hb
            have hsz:=Nat.eq_of_beq_eq_true hb.1
            split at hrow
            · rename_i h0
              have hlt:i.toNat<rows.length:=(List.getElem?_eq_some_iff.1 hrow).1
              rcases cj hM ho with ⟨h1,h2⟩ | ⟨b,o,h1,h2⟩
              · subst h2; simp at hlt
              · have hrl:row.length=sz:=h2.2.1 row (List.mem_of_getElem? hrow)
                cases hx with
                | mfn hm=>rw [h1] at hm; cases hm
                | mfe a hm=>rw [h1] at hm; cases hm
                | mf cap hm _ _ =>
                  rw [h1] at hm
                  cases hm
                  refine ⟨_,_,h,.ptr i.toNat 0 rfl h1,?_⟩
                  rw [run hu hinf h0 (by omega),← hsz,hrl]
                  rfl
            · cases hrow
          · exact False.elim h
        · rename_i sz cells hole ho
          replace h:=ab h
          obtain ⟨hb,h⟩:=h
          simp only [Bool.and_eq_true,decide_eq_true_eq,Nat.blt_eq] at hb
          obtain ⟨⟨h0,hlt⟩,hsz⟩:=hb
          have hsz:=Nat.eq_of_beq_eq_true hsz
          have hob:=hM.obj id
          rw [ho] at hob
          cases hx with
          | mfn hm =>
            rw [hm] at hob
            have hob:cells=[]:=hob.2
            subst hob
            simp at hlt
          | mfe a hm =>
            rw [hm] at hob
            have hob:cells=[]:=hob.2
            subst hob
            simp at hlt
          | mf cap hm _ _ =>
            have hm0:=hm
            rw [hm] at hob
            obtain ⟨e1,e2⟩:=hob rfl
            subst e1 e2
            refine ⟨_,_,h,.ptr i.toNat 0 rfl hm0,?_⟩
            rw [run hu hinf h0 (by omega),hsz]
            rfl
        · exact False.elim h
      · rename_i id off len ext
        split at h
        · rename_i fl sz rows ho
          replace h:=ab h
          obtain ⟨hb0,h⟩:=h
          simp only [Bool.and_eq_true,decide_eq_true_eq] at hb0
          obtain ⟨h0,hn⟩:=hb0
          split at h
          · rename_i row hrow
            replace h:=ab h
            obtain ⟨hb,h⟩:=h
            simp only [Bool.and_eq_true] at hb
            have hsz:=Nat.eq_of_beq_eq_true hb.1
            have hlt:i.toNat + off<rows.length:=(List.getElem?_eq_some_iff.1 hrow).1
            rcases cj hM ho with ⟨h1,h2⟩ | ⟨b,o,h1,h2⟩
            · subst h2; simp at hlt
            · have hrl:row.length=sz:=h2.2.1 row (List.mem_of_getElem? hrow)
              cases hx with
              | msle _ a hm=>simp at hn; omega
              | msl _ _ _ cap hm _ _ _ =>
                rw [h1] at hm
                cases hm
                refine ⟨_,_,h,.ptr (i.toNat + off) 0 rfl h1,?_⟩
                rw [run hu hinf h0 hn,← hsz,hrl,Nat.add_mul,Nat.add_assoc,Nat.add_comm (off * sz)]
                rfl
          · exact False.elim h
        · exact False.elim h
      · rename_i key off len
        replace h:=ab h
        obtain ⟨hb,h⟩:=h
        simp only [Bool.and_eq_true,decide_eq_true_eq] at hb
        obtain ⟨⟨h0,hn⟩,hsz⟩:=hb
        have hsz:=Nat.eq_of_beq_eq_true hsz
        cases hx with
        | bsl _ _ cap hs hm _ =>
          refine ⟨_,_,h,.ptr 0 (off + i.toNat) hs hm,?_⟩
          rw [run hu hinf h0 hn,hsz,Nat.zero_mul,Nat.add_zero,Nat.mul_one,Nat.add_assoc]
      · exact False.elim h
    · exact False.elim h
  · rename_i len e hu
    split at h
    · rename_i inf hinf
      replace h:=ab h
      obtain ⟨hb,h⟩:=h
      simp only [Bool.and_eq_true,decide_eq_true_eq] at hb
      have runA:∀ {b o:Nat},(Instr.indexAt t (.pointer (some ⟨b,o,none⟩)) (.int kd i)).run P w=.ok (.pointer (some ⟨b,o + i.toNat * inf.size,none⟩)) w:=by
        intro b o
        unfold Instr.indexAt
        simp only [asIntOf,Instr.sureAddr,Sem.run_bind,Sem.run_pure,Result.andThen_ok,run_underlying hu,if_pos hb,run_sizeOf hinf,ct]
      split at h
      · rename_i key a j
        cases hx with
        | ptr _ _ hs0 hm=>exact ⟨_,_,h,.ptr a (i.toNat * inf.size + j) hs0 hm,by rw [runA,Nat.add_assoc,Nat.add_comm j]⟩
      · rename_i row j
        cases hx with
        | fptr _ us h1 h2 h3 h4=>exact ⟨_,_,h,.fptr (i.toNat * inf.size + j) us h1 h2 h3 h4,by rw [runA,Nat.add_assoc,Nat.add_comm j]⟩
      · exact False.elim h
    · exact False.elim h
  · exact False.elim h
end
def qm (x:Option Int) (y:Option Value):Prop :=
  match x,y with
  | none,none=>True
  | some n,some v=>∃ kd,v=.int kd n
  | _,_=>False
theorem cY {P:Program} {w:World} {kd:IntKind} {i:Int} {y:Nat} {code:BoundsCode} (h0:0≤i) (h1:i≤y):(Instr.sliceBound (.int kd i) y code).run P w=.ok i.toNat w:=by
  unfold Instr.sliceBound
  simp only [asIntOf,Sem.run_bind,Sem.run_pure,Result.andThen_ok,if_pos (And.intro h0 h1)]
theorem ck {P:Program} {w:World} {b:Bool} {len cap cap':Nat} {lo hi mx:Option Int} {lo' hi' mx':Option Value} {k:Nat→Nat→Nat→Prop} (h:kK len cap lo hi mx k)
    (h1:qm lo lo') (h2:qm hi hi') (h3:qm mx mx') (hl:len≤cap) (hc:cap≤cap') :
    ∃ l e m m',k l e m∧(Instr.sliceBounds b len cap' lo' hi' mx').run P w=.ok (l,e,m') w∧l≤e∧e≤m∧m≤cap∧m≤m'∧m'≤cap'∧(lo=none→l=0)∧(hi=none→e=len∧m'=cap')∧(∀ n,hi=some n→e=n.toNat)∧(∀ n,mx=some n→m'=n.toNat):=by
  unfold kK at h
  split at h
  · cases lo' with
    | some _=>exact h1.elim
    | none=>cases hi' with
      | some _=>exact h2.elim
      | none=>cases mx' with
        | some _=>exact h3.elim
        | none=>exact ⟨0,len,cap,cap',h,by simp [Instr.sliceBounds],by omega,hl,Nat.le_refl _,hc,Nat.le_refl _,fun _=>rfl,fun _=>⟨rfl,rfl⟩,fun n hn=>(by cases hn),fun n hn=>(by cases hn)⟩
  · rename_i l
    replace h:=ab h; obtain ⟨hb,h⟩:=h
    simp only [Bool.and_eq_true,decide_eq_true_eq] at hb
    cases lo' with
    | none=>exact h1.elim
    | some v =>
                obtain ⟨kd,rfl⟩:=h1
                cases hi' with
                | some _=>exact h2.elim
                | none=>cases mx' with
                  | some _=>exact h3.elim
                  | none=>exact ⟨l.toNat,len,cap,cap',h,by simp [Instr.sliceBounds,cY hb.1 hb.2],by omega,hl,Nat.le_refl _,hc,Nat.le_refl _,fun hn=>(by cases hn),fun _=>⟨rfl,rfl⟩,fun n hn=>(by cases hn),fun n hn=>(by cases hn)⟩
  · rename_i e
    replace h:=ab h; obtain ⟨hb,h⟩:=h
    simp only [Bool.and_eq_true,decide_eq_true_eq] at hb
    cases lo' with
    | some _=>exact h1.elim
    | none=>cases hi' with
      | none=>exact h2.elim
      | some v =>
                  obtain ⟨kd,rfl⟩:=h2
                  cases mx' with
                  | some _=>exact h3.elim
                  | none =>
                    have hb2:e≤(cap':Int):=by omega
                    exact ⟨0,e.toNat,cap,cap',h,by simp [Instr.sliceBounds,cY hb.1 hb2],by omega,by omega,Nat.le_refl _,hc,Nat.le_refl _,fun _=>rfl,fun hn=>(by cases hn),fun n hn=>(by cases hn; rfl),fun n hn=>(by cases hn)⟩
  · rename_i l e
    replace h:=ab h; obtain ⟨hb,h⟩:=h
    simp only [Bool.and_eq_true,decide_eq_true_eq] at hb
    cases lo' with
    | none=>exact h1.elim
    | some v =>
                obtain ⟨kd,rfl⟩:=h1
                cases hi' with
                | none=>exact h2.elim
                | some v =>
                            obtain ⟨kd2,rfl⟩:=h2
                            cases mx' with
                            | some _=>exact h3.elim
                            | none =>
                              have hb2:e≤(cap':Int):=by omega
                              have hb0:0≤e:=by omega
                              have hb3:l≤(e.toNat:Int):=by omega
                              exact ⟨l.toNat,e.toNat,cap,cap',h,by simp [Instr.sliceBounds,cY hb0 hb2,cY hb.1.1 hb3],by omega,by omega,Nat.le_refl _,hc,Nat.le_refl _,fun hn=>(by cases hn),fun hn=>(by cases hn),fun n hn=>(by cases hn; rfl),fun n hn=>(by cases hn)⟩
  · rename_i e m
    replace h:=ab h; obtain ⟨hb,h⟩:=h
    simp only [Bool.and_eq_true,decide_eq_true_eq] at hb
    cases lo' with
    | some _=>exact h1.elim
    | none=>cases hi' with
      | none=>exact h2.elim
      | some v =>
                  obtain ⟨kd,rfl⟩:=h2
                  cases mx' with
                  | none=>exact h3.elim
                  | some v =>
                              obtain ⟨kd3,rfl⟩:=h3
                              have hm0:0≤m:=by omega
                              have hm1:m≤(cap':Int):=by omega
                              have hb2:e≤(m.toNat:Int):=by omega
                              exact ⟨0,e.toNat,m.toNat,m.toNat,h,by simp [Instr.sliceBounds,cY hm0 hm1,cY hb.1.1 hb2],by omega,by omega,by omega,Nat.le_refl _,by omega,fun _=>rfl,fun hn=>(by cases hn),fun n hn=>(by cases hn; rfl),fun n hn=>(by cases hn; rfl)⟩
  · rename_i l e m
    replace h:=ab h; obtain ⟨hb,h⟩:=h
    simp only [Bool.and_eq_true,decide_eq_true_eq] at hb
    cases lo' with
    | none=>exact h1.elim
    | some v =>
                obtain ⟨kd,rfl⟩:=h1
                cases hi' with
                | none=>exact h2.elim
                | some v =>
                            obtain ⟨kd2,rfl⟩:=h2
                            cases mx' with
                            | none=>exact h3.elim
                            | some v =>
                                        obtain ⟨kd3,rfl⟩:=h3
                                        have hm0:0≤m:=by omega
                                        have hm1:m≤(cap':Int):=by omega
                                        have he0:0≤e:=by omega
                                        have he1:e≤(m.toNat:Int):=by omega
                                        have hl1:l≤(e.toNat:Int):=by omega
                                        exact ⟨l.toNat,e.toNat,m.toNat,m.toNat,h,by simp [Instr.sliceBounds,cY hm0 hm1,cY he0 he1,cY hb.1.1.1 hl1],by omega,by omega,by omega,Nat.le_refl _,by omega,fun hn=>(by cases hn),fun hn=>(by cases hn),fun n hn=>(by cases hn; rfl),fun n hn=>(by cases hn; rfl)⟩
  · exact False.elim h
theorem pg {x:Option Int} (h:dz x=true):∃ n,x=some n∧n.toNat=0:=by
  unfold dz at h
  split at h
  · exact ⟨_,rfl,rfl⟩
  · cases h
theorem wW {sz:Nat} {rows:List (List AV)} (h0:0<sz) (hr:∀ r∈rows,r.length=sz) (off len m:Nat) {c:AV} (hm:((rows.drop off).take len).flatten[m]?=some c):rows.flatten[off * sz + m]?=some c:=by
  have hr':∀ r∈(rows.drop off).take len,r.length=sz:=fun r hx=>hr r (List.mem_of_mem_drop (List.mem_of_mem_take hx))
  have hml:m<((rows.drop off).take len).length * sz:=by rw [← aL hr']; exact (List.getElem?_eq_some_iff.1 hm).1
  have hi:m / sz<((rows.drop off).take len).length:=Nat.div_lt_of_lt_mul (by rw [Nat.mul_comm]; exact hml)
  have hmm:m % sz<sz:=Nat.mod_lt _ h0
  have hdm:m / sz * sz + m % sz=m:=by rw [Nat.mul_comm]; exact Nat.div_add_mod m sz
  have hrow:((rows.drop off).take len)[m / sz]?=some (((rows.drop off).take len)[m / sz]):=List.getElem?_eq_getElem hi
  have e1:=bF hr' hrow hmm
  have hrow2:rows[off + m / sz]?=some (((rows.drop off).take len)[m / sz]):=by
    rw [← hrow,List.getElem?_take,if_pos (by simp only [List.length_take] at hi; omega),List.getElem?_drop]
  have e2:=bF hr hrow2 hmm
  rw [hdm] at e1
  rw [Nat.add_mul,Nat.add_assoc,hdm] at e2
  rw [e2,← e1]
  exact hm
theorem uP {size sz:Nat} {rows:List (List AV)} (h:q_ size rows=true) (hr:∀ r∈rows,r.length=sz) (hne:rows≠[]):sz=size:=by
  cases rows with
  | nil=>exact absurd rfl hne
  | cons r rs=>rw [← hr r (by simp)]; exact Nat.eq_of_beq_eq_true h
theorem ya {E:Env} {rows:List (List AV)} {A:Option Addr} {n c:Nat} (hx:VR E (.sl rows) (.slice A n c)) {l e m:Nat} {size:Nat} (hsz:q_ size rows=true) (hle:l≤e) (hen:e≤n) (hm:e≤m) (hmc:m≤c) :
    VR E (.sl ((rows.drop l).take (e - l))) (.slice (if m=l then A else A.map (·.add (l * size))) (e - l) (m - l)):=by
  cases hx with
  | sln =>
    have e1:e=0:=by omega
    have e2:m=0:=by omega
    have e3:l=0:=by omega
    subst e1 e2 e3
    exact .sln _
  | sle a cap =>
    have e1:e - l=0:=by omega
    rw [e1,List.take_zero]
    split
    · exact .sle _ _ _
    · exact .sle _ _ _
  | sl us h1 h2 h3 h4 h5 h6 h7 =>
    rename_i sz b o
    by_cases hel:e=l
    · rw [hel,Nat.sub_self,List.take_zero]
      split
      · exact .sle _ _ _
      · exact .sle _ _ _
    · have hlen:((rows.drop l).take (e - l)).length=e - l:=by simp; omega
      have hrne:rows≠[]:=fun hh=>by subst hh; simp at hen; omega
      have hs:=uP hsz h2 hrne
      subst hs
      have hr':∀ r∈(rows.drop l).take (e - l),r.length=sz:=fun r hx=>h2 r (List.mem_of_mem_drop (List.mem_of_mem_take hx))
      have hfl:=aL hr'
      have hfl0:=aL h2
      have hmul:l * sz + (e - l) * sz≤rows.length * sz:=by rw [← Nat.add_mul]; exact Nat.mul_le_mul_right sz (by omega)
      rw [if_neg (by omega),Option.map_some,ct]
      have hgoal:=VR.sl (E:=E) (rows:=(rows.drop l).take (e - l)) (sz:=sz) (b:=b) (o:=o + l * sz) (cap:=m - l) ((us.drop (l * sz)).take ((e - l) * sz)) h1 hr'
        (by rw [hfl,hlen,List.length_take,List.length_drop,h3,hfl0]; exact Nat.min_eq_left (by omega))
        (fun k c u hc hu=>by
          have hk:k<(e - l) * sz:=by rw [← hlen,← hfl]; exact (List.getElem?_eq_some_iff.1 hc).1
          rw [List.getElem?_take,if_pos hk,List.getElem?_drop] at hu
          exact h4 _ c u (wW h1 h2 _ _ _ hc) hu) h5
        (fun k u hu=>by
          rw [List.getElem?_take] at hu
          split at hu
          · rw [List.getElem?_drop] at hu
            rw [Nat.add_assoc]
            exact h6 _ u hu
          · cases hu) (by rw [hlen]; omega)
      rw [hlen] at hgoal
      exact hgoal
theorem vX {E:Env} {id b o sz n off l ee m m' cap:Nat} (hm:E.mu (.O id)=some (.blk b o sz n)) (h1:l≤ee) (h2:ee≤m) (h3:off + m≤n) (h4:m≤m') (h5:m'≤cap) (h6:o + (off + cap) * sz≤au E.h b) :
    VR E (.msl id (l + off) (ee - l) (m - ee)) (.slice (if m'=l then some ⟨b,o + off * sz,none⟩ else (some (⟨b,o + off * sz,none⟩:Addr)).map (·.add (l * sz))) (ee - l) (m' - l)):=by
  by_cases hml:m'=l
  · rw [if_pos hml]
    have e1:ee - l=0:=by omega
    have e2:m - ee=0:=by omega
    have e3:m' - l=0:=by omega
    rw [e1,e2,e3]
    exact .msle _ _ hm
  · rw [if_neg hml,Option.map_some,ct,show o + off * sz + l * sz=o + (l + off) * sz by rw [Nat.add_mul]; omega]
    refine .msl _ _ _ _ hm (by omega) (by omega) (Nat.le_trans (Nat.add_le_add_left (Nat.mul_le_mul_right sz ?_) o) h6)
    omega
section
variable {G:Gh} {p:Nat→Option (List AV)} {E:Env} {M:St} {w:World} {P:Program}
theorem rt (hM:ad G p E M w) {t:TypeId} {x:AV} {u:Value} {lo hi mx:Option Int} {lo' hi' mx':Option Value} {k:AV→Prop} (h:dY P t x lo hi mx M k) (hx:VR E x u)
    (h1:qm lo lo') (h2:qm hi hi') (h3:qm mx mx'):∃ r z,k r∧VR E r z∧(Instr.sliceAt t u lo' hi' mx').run P w=.ok z w:=by
  unfold dY at h
  split at h
  · rename_i hu
    split at h
    · rename_i s
      obtain ⟨rfl,_⟩:=hx.vI
      obtain ⟨l,e,m,m',hk,hrun,_⟩:=ck (P:=P) (w:=w) (b:=false) h h1 h2 (mx':=none) trivial (Nat.le_refl _) (Nat.le_refl _)
      have hmx:mx'=none:=by cases mx' with | none=>rfl | some _=>exact h3.elim
      subst hmx
      refine ⟨_,_,hk,.v _ _ rfl,?_⟩
      unfold Instr.sliceAt
      simp [run_underlying hu,Instr.slice,hrun]
    · exact False.elim h
  · rename_i e hu
    split at h
    · rename_i inf hinf
      replace h:=ab h; obtain ⟨hb,h⟩:=h
      have run:∀ {A:Option Addr} {n c l ee m:Nat},(Instr.sliceBounds true n c lo' hi' mx').run P w=.ok (l,ee,m) w →
          (Instr.sliceAt t (.slice A n c) lo' hi' mx').run P w=.ok (.slice (if m=l then A else A.map (·.add (l * inf.size))) (ee - l) (m - l)) w:=by
        intro A n c l ee m hr
        unfold Instr.sliceAt
        simp [run_underlying hu,Instr.slice,hr,run_sizeOf hinf]
      have z0:∀ {l ee m:Nat} {A:Option Addr},ee=0→m=0→l≤ee→VR E .esl (.slice (if m=l then A else A.map (·.add (l * inf.size))) (ee - l) (m - l)):=by
        intro l ee m A e1 e2 e3
        subst e1 e2
        have:l=0:=by omega
        subst this
        rw [if_pos rfl]
        cases A with
        | none=>exact .esln _
        | some a=>exact .esl _ a
      have zz:∀ {l ee m m' c cap:Nat},(∀ n,hi=some n→ee=n.toNat)→(∀ n,mx=some n→m'=n.toNat)→(dz hi&&dz mx)=true→ee=0∧m'=0:=by
        intro l ee m m' c cap h4 h5 h6
        simp only [Bool.and_eq_true] at h6
        obtain ⟨a,ha,ha0⟩:=pg h6.1
        obtain ⟨b,hb,hb0⟩:=pg h6.2
        exact ⟨(h4 a ha).trans ha0,(h5 b hb).trans hb0⟩
      split at h
      · cases hx
        obtain ⟨l,ee,m,m',hk,hrun,hl1,hl2,hl3,hl4,hl5,_⟩:=ck (P:=P) (w:=w) (b:=true) h h1 h2 h3 (Nat.le_refl _) (Nat.le_refl _)
        refine ⟨_,_,hk,?_,run hrun⟩
        have:m'=0:=by omega
        have:ee=0:=by omega
        have:l=0:=by omega
        subst_vars
        exact .nilsl _
      · have hu0:∃ A,u=.slice A 0 0:=by cases hx <;> exact ⟨_,rfl⟩
        obtain ⟨A,rfl⟩:=hu0
        obtain ⟨l,ee,m,m',hk,hrun,hl1,hl2,hl3,hl4,hl5,_⟩:=ck (P:=P) (w:=w) (b:=true) h h1 h2 h3 (Nat.le_refl _) (Nat.le_refl _)
        refine ⟨_,_,hk,?_,run hrun⟩
        exact z0 (by omega) (by omega) hl1
      · rename_i rows
        replace h:=ab h; obtain ⟨hsz,h⟩:=h
        have hu0:∃ A c,u=.slice A rows.length c∧rows.length≤c:=by
          cases hx with
          | sln=>exact ⟨_,_,rfl,Nat.le_refl _⟩
          | sle a cap=>exact ⟨_,_,rfl,by simp⟩
          | sl us _ _ _ _ _ _ h7=>exact ⟨_,_,rfl,h7⟩
        obtain ⟨A,c,rfl,hc⟩:=hu0
        obtain ⟨l,ee,m,m',hk,hrun,hl1,hl2,hl3,hl4,hl5,hl6,hl7,hl8,hl9⟩:=ck (P:=P) (w:=w) (b:=true) h h1 h2 h3 (Nat.le_refl _) hc
        have hsub:=ya hx hsz hl1 (show ee≤rows.length by omega) (show ee≤m' by omega) hl5
        split at hk
        · rename_i hz
          obtain ⟨e1,e2⟩:=zz (l:=l) (ee:=ee) (m:=m) (m':=m') (c:=c) (cap:=c) hl8 hl9 hz
          exact ⟨_,_,hk,z0 e1 e2 hl1,run hrun⟩
        · have e1:=hl6 rfl
          obtain ⟨e2,e3⟩:=hl7 rfl
          subst e1 e2
          rw [List.drop_zero,Nat.sub_zero,List.take_length] at hsub
          exact ⟨_,_,hk,hsub,run hrun⟩
        · obtain ⟨e2,e3⟩:=hl7 rfl
          subst e2
          rw [List.take_of_length_le (by simp)] at hsub
          exact ⟨_,_,hk,hsub,run hrun⟩
        · have e1:=hl6 rfl
          subst e1
          rw [List.drop_zero,Nat.sub_zero] at hsub
          exact ⟨_,_,hk,hsub,run hrun⟩
        · exact ⟨_,_,hk,hsub,run hrun⟩
      · rename_i id
        split at h
        · rename_i fl sz rows ho
          replace h:=ab h; obtain ⟨hsz,h⟩:=h
          have hsz':=Nat.eq_of_beq_eq_true hsz
          subst hsz'
          rcases cj hM ho with ⟨hm,rfl⟩ | ⟨b,o,hm,ha⟩
          · have hu0:∃ A,u=.slice A 0 0:=by
              cases hx with
              | mfn _=>exact ⟨_,rfl⟩
              | mfe _ _=>exact ⟨_,rfl⟩
              | mf _ hm' _ _=>rw [hm] at hm'; cases hm'
            obtain ⟨A,rfl⟩:=hu0
            obtain ⟨l,ee,m,m',hk,hrun,hl1,hl2,hl3,hl4,hl5,hl6,hl7,hl8,hl9⟩:=ck (P:=P) (w:=w) (b:=true) h h1 h2 h3 (Nat.le_refl _) (Nat.le_refl _)
            simp only [List.length_nil] at hl3 hl5
            have e1:m=0:=by omega
            have e2:ee=0:=by omega
            have e3:l=0:=by omega
            have e4:m'=0:=by omega
            subst e1 e2 e3 e4
            have hr:=run (A:=A) hrun
            rw [if_pos rfl] at hr
            split at hk
            · exact ⟨_,_,hk,(by cases A with | none=>exact .esln _ | some a=>exact .esl _ a),hr⟩
            · exact ⟨_,_,hk,hx,hr⟩
            · exact ⟨_,_,hk,.msle _ _ hm,hr⟩
            · exact ⟨_,_,hk,.msle _ _ hm,hr⟩
          · cases hx with
            | mfn hm'=>rw [hm] at hm'; cases hm'
            | mfe _ hm'=>rw [hm] at hm'; cases hm'
            | mf cap hm' h4 h5 =>
              rw [hm] at hm'
              cases hm'
              obtain ⟨l,ee,m,m',hk,hrun,hl1,hl2,hl3,hl4,hl5,hl6,hl7,hl8,hl9⟩:=ck (P:=P) (w:=w) (b:=true) h h1 h2 h3 (Nat.le_refl _) h4
              have hmk:=vX (off:=0) hm hl1 hl2 (by omega) hl4 hl5 (by rw [Nat.zero_add]; exact h5)
              rw [Nat.zero_mul,Nat.add_zero] at hmk
              split at hk
              · rename_i hz
                obtain ⟨e1,e2⟩:=zz (l:=l) (ee:=ee) (m:=m) (m':=m') (c:=cap) (cap:=cap) hl8 hl9 hz
                exact ⟨_,_,hk,z0 e1 e2 hl1,run hrun⟩
              · have e1:=hl6 rfl
                obtain ⟨e2,e3⟩:=hl7 rfl
                subst e1 e2 e3
                refine ⟨_,_,hk,?_,run hrun⟩
                have e4:(if m'=0 then some (⟨b,o,none⟩:Addr) else (some (⟨b,o,none⟩:Addr)).map (·.add (0 * inf.size)))=some ⟨b,o,none⟩:=by
                  split
                  · rfl
                  · rw [Nat.zero_mul,Option.map_some,ct]; rfl
                rw [e4,Nat.sub_zero,Nat.sub_zero]
                exact .mf m' hm h4 h5
              · obtain ⟨e2,e3⟩:=hl7 rfl
                subst e2
                have e4:m - rows.length=0:=by omega
                rw [e4] at hmk
                exact ⟨_,_,hk,hmk,run hrun⟩
              · exact ⟨_,_,hk,hmk,run hrun⟩
        · exact False.elim h
      · rename_i id off len ext
        split at h
        · rename_i fl sz rows ho
          replace h:=ab h; obtain ⟨hsz,h⟩:=h
          have hsz':=Nat.eq_of_beq_eq_true hsz
          subst hsz'
          cases hx with
          | msle _ A hm =>
            obtain ⟨l,ee,m,m',hk,hrun,hl1,hl2,hl3,hl4,hl5,hl6,hl7,hl8,hl9⟩:=ck (P:=P) (w:=w) (b:=true) h h1 h2 h3 (Nat.le_refl _) (Nat.le_refl _)
            have e1:m=0:=by omega
            have e2:ee=0:=by omega
            have e3:l=0:=by omega
            have e4:m'=0:=by omega
            subst e1 e2 e3 e4
            have hr:=run (A:=A) hrun
            rw [if_pos rfl] at hr
            split at hk
            · exact ⟨_,_,hk,(by cases A with | none=>exact .esln _ | some a=>exact .esl _ a),hr⟩
            · exact ⟨_,_,hk,.msle _ _ hm,hr⟩
          | msl _ _ _ cap hm h4 h5 h6 =>
            rcases cj hM ho with ⟨hm',_⟩ | ⟨b',o',hm',ha⟩
            · rw [hm] at hm'; cases hm'
            · rw [hm] at hm'
              cases hm'
              obtain ⟨l,ee,m,m',hk,hrun,hl1,hl2,hl3,hl4,hl5,hl6,hl7,hl8,hl9⟩:=ck (P:=P) (w:=w) (b:=true) h h1 h2 h3 (by omega) h5
              have hmk:=vX (off:=off) hm hl1 hl2 (by omega) hl4 hl5 h6
              split at hk
              · rename_i hz
                obtain ⟨e1,e2⟩:=zz (l:=l) (ee:=ee) (m:=m) (m':=m') (c:=cap) (cap:=cap) hl8 hl9 hz
                exact ⟨_,_,hk,z0 e1 e2 hl1,run hrun⟩
              · exact ⟨_,_,hk,hmk,run hrun⟩
        · exact False.elim h
      · exact False.elim h
    · exact False.elim h
  · rename_i n e hu
    split at h
    · rename_i inf key j hinf
      replace h:=ab h; obtain ⟨hb,h⟩:=h
      have hsz:=Nat.eq_of_beq_eq_true hb
      cases hx with
      | ptr _ _ hs0 hm =>
        rename_i b o sz n0
        obtain ⟨l,ee,m,m',hk,hrun,hl1,hl2,hl3,hl4,hl5,hl6,hl7,hl8,hl9⟩:=ck (P:=P) (w:=w) (b:=false) h h1 h2 h3 (Nat.le_refl _) (Nat.le_refl _)
        obtain ⟨hlt,hk⟩:=ab hk
        have hlt':l<m:=by simpa using hlt
        refine ⟨_,.slice (some ⟨b,o + (j + l),none⟩) (ee - l) (m' - l),hk,.bsl _ _ _ hs0 hm (by omega),?_⟩
        unfold Instr.sliceAt
        have hne:¬ m'=l:=by omega
        simp [run_underlying hu,Instr.sureAddr,hrun,run_sizeOf hinf,hne,hsz,ct,Nat.add_assoc]
    · exact False.elim h
  · exact False.elim h
end
theorem fY {α β:Type} {P:Program}:∀ (s:Sem α) (f:α→Sem β),aP P (s >>= f)=(aP P s).bind fun a=>aP P (f a)
  | .pure _,_=>rfl
  | .program k,f=>fY (k P) f
  | .load _ _ _,_=>rfl
  | .store _ _ _ _,_=>rfl
  | .new _ _,_=>rfl
  | .shape _ _,_=>rfl
  | .freeze _ _ _,_=>rfl
  | .frozen _ _,_=>rfl
  | .getObj _ _,_=>rfl
  | .setObj _ _ _,_=>rfl
  | .choose _ _,_=>rfl
  | .sys _ _,_=>rfl
  | .mark _ _,_=>rfl
  | .halt _,_=>rfl
theorem fZ {α:Type} {P:Program} (a:α):aP P (pure a:Sem α)=some a:=rfl
theorem ov {E:Env} {P:Program} {src dst:TypeId} {x:AV} {u:Value} {k:AV→Prop} (h:g4 P src dst x k) (hx:VR E x u) (w:World) :
    ∃ r z,k r∧VR E r z∧(convert src dst u).run P w=.ok z w:=by
  unfold g4 at h
  split at h
  · rename_i d kd h1 h2
    split at h
    · obtain ⟨rfl,_⟩:=hx.vI
      refine ⟨_,_,h,.v _ _ rfl,?_⟩
      unfold convert
      rw [Sem.run_bind,run_underlying h1,Result.andThen_ok,Sem.run_bind,run_underlying h2,Result.andThen_ok]
      cases d <;> rfl
    · exact False.elim h
  · rename_i h1 h2
    split at h
    · obtain ⟨rfl,_⟩:=hx.vI
      refine ⟨_,_,h,.v _ _ rfl,?_⟩
      unfold convert
      rw [Sem.run_bind,run_underlying h1,Result.andThen_ok,Sem.run_bind,run_underlying h2,Result.andThen_ok]
      rfl
    · exact False.elim h
  · exact False.elim h
theorem vY {E:Env} {cs:List AV} {xs:List Value} {us:Array Value} (h:lX cs=some xs) (hv:aO E cs us.toList):us=xs.toArray:=by
  have:=gu h hv
  rw [← this]
theorem wX {E:Env} {a:AV} {x u:Value} (h:sL a=some x) (hv:VR E a u):u=x:=by
  unfold sL at h
  split at h
  · cases h; exact hv.vI.1
  · split at h
    · rename_i xs hxs
      cases h
      obtain ⟨us,rfl,hus⟩:=hv.aggI
      rw [vY hxs hus]
    · cases h
  · cases h
theorem j0 {kind:TypeDesc} {k:Value}:∀ {l1 l2:List MapEntry} (i:Nat),l1.map (·.key)=l2.map (·.key)→∀ {r:Option (Nat×Value)},Instr.findNow kind k l1 i=some r →
    ∃ r2,Instr.findNow kind k l2 i=some r2∧r2.map (·.1)=r.map (·.1)∧∀ j v,r2=some (j,v)→i≤j∧(l2[j - i]?).map (·.val)=some v
  | [],l2,i,hk,r,h=>by
    have:l2=[]:=by cases l2 with | nil=>rfl | cons _ _=>simp at hk
    subst this
    simp only [Instr.findNow,Option.some.injEq] at h
    subst h
    exact ⟨none,rfl,rfl,fun j v hj=>by cases hj⟩
  | e1::l1,l2,i,hk,r,h=>by
    cases l2 with
    | nil=>simp at hk
    | cons e2 l2 =>
      simp only [List.map_cons,List.cons.injEq] at hk
      obtain ⟨hk1,hk2⟩:=hk
      unfold Instr.findNow at h ⊢
      rw [← hk1]
      split at h
      · cases h
        rename_i hs
        refine ⟨some (i,e2.val),rfl,rfl,fun j v hj=>?_⟩
        cases hj
        exact ⟨Nat.le_refl _,by simp⟩
      · rename_i hs
        obtain ⟨r2,h1,h2,h3⟩:=j0 (i + 1) hk2 h
        refine ⟨r2,h1,h2,fun j v hj=>?_⟩
        obtain ⟨h4,h5⟩:=h3 j v hj
        refine ⟨by omega,?_⟩
        rw [show j - i=(j - (i + 1)) + 1 by omega]
        exact h5
      · cases h
theorem j1 {kind:TypeDesc} {k:Value}:∀ {l1 l2:List MapEntry} (i:Nat),l1.map (·.key)=l2.map (·.key)→Instr.findNow kind k l1 i=none→Instr.findNow kind k l2 i=none
  | [],l2,i,hk,h=>by simp [Instr.findNow] at h
  | e1::l1,l2,i,hk,h=>by
    cases l2 with
    | nil=>simp at hk
    | cons e2 l2 =>
      simp only [List.map_cons,List.cons.injEq] at hk
      unfold Instr.findNow at h ⊢
      rw [← hk.1]
      split at h
      · cases h
      · exact j1 (i + 1) hk.2 h
      · rfl
theorem gR {P:Program} {kt:TypeId} {k:Value}:∀ {l1 l2:List MapEntry} (i:Nat),l1.map (·.key)=l2.map (·.key)→∀ {r:Option (Nat×Value)},aP P (Instr.findAsking kt k l1 i)=some r →
    ∃ r2,aP P (Instr.findAsking kt k l2 i)=some r2∧r2.map (·.1)=r.map (·.1)∧∀ j v,r2=some (j,v)→i≤j∧(l2[j - i]?).map (·.val)=some v
  | [],l2,i,hk,r,h=>by
    have:l2=[]:=by cases l2 with | nil=>rfl | cons _ _=>simp at hk
    subst this
    simp only [Instr.findAsking,fZ,Option.some.injEq] at h
    subst h
    exact ⟨none,rfl,rfl,fun j v hj=>by cases hj⟩
  | e1::l1,l2,i,hk,r,h=>by
    cases l2 with
    | nil=>simp at hk
    | cons e2 l2 =>
      simp only [List.map_cons,List.cons.injEq] at hk
      obtain ⟨hk1,hk2⟩:=hk
      unfold Instr.findAsking at h ⊢
      rw [fY] at h ⊢
      rw [← hk1]
      cases hb:aP P (Op.equal kt k e1.key) with
      | none=>rw [hb] at h; cases h
      | some b =>
        rw [hb] at h
        simp only [Option.bind_some] at h ⊢
        cases b with
        | true =>
          simp only [if_true,fZ,Option.some.injEq] at h ⊢
          subst h
          refine ⟨_,rfl,rfl,fun j v hj=>?_⟩
          cases hj
          exact ⟨Nat.le_refl _,by simp⟩
        | false =>
          simp only [Bool.false_eq_true,if_false] at h ⊢
          obtain ⟨r2,h1,h2,h3⟩:=gR (i + 1) hk2 h
          refine ⟨r2,h1,h2,fun j v hj=>?_⟩
          obtain ⟨h4,h5⟩:=h3 j v hj
          refine ⟨by omega,?_⟩
          rw [show j - i=(j - (i + 1)) + 1 by omega]
          exact h5
theorem qn {P:Program} {kt:TypeId} {k:Value} {l1 l2:List MapEntry} (hk:l1.map (·.key)=l2.map (·.key)) {r:Option (Nat×Value)} (h:aP P (Instr.findKey kt k l1)=some r) (w:World) :
    ∃ r2,(Instr.findKey kt k l2).run P w=.ok r2 w∧r2.map (·.1)=r.map (·.1)∧∀ j v,r2=some (j,v)→(l2[j]?).map (·.val)=some v:=by
  unfold Instr.findKey at h
  rw [fY] at h
  cases hu:aP P (underlying kt) with
  | none=>rw [hu] at h; cases h
  | some d =>
    rw [hu] at h
    simp only [Option.bind_some] at h
    unfold Instr.findKey
    rw [Sem.run_bind,ci _ w hu,Result.andThen_ok]
    cases hn:Instr.findNow d k l1 0 with
    | some r1 =>
      rw [hn] at h
      simp only [fZ,Option.some.injEq] at h
      subst h
      obtain ⟨r2,h1,h2,h3⟩:=j0 0 hk hn
      exact ⟨r2,by rw [h1]; rfl,h2,fun j v hj=>by simpa using (h3 j v hj).2⟩
    | none =>
      rw [hn] at h
      rw [j1 0 hk hn]
      obtain ⟨r2,h1,h2,h3⟩:=gR 0 hk h
      exact ⟨r2,ci _ w h1,h2,fun j v hj=>by simpa using (h3 j v hj).2⟩
theorem lz:∀ {es:List (AV×AV)} {xs:List MapEntry} {ms:List MapEntry},keysOf es=some xs→es.length=ms.length→(∀ (i:Nat) (e:AV×AV) (m:MapEntry),es[i]?=some e→ms[i]?=some m→sL e.1=some m.key) →
    xs.map (·.key)=ms.map (·.key)
  | [],xs,ms,h,hl,_=>by
    simp only [keysOf,Option.some.injEq] at h
    subst h
    have:ms=[]:=List.eq_nil_of_length_eq_zero (by simpa using hl.symm)
    subst this
    rfl
  | (k,v)::es,xs,ms,h,hl,hk=>by
    cases ms with
    | nil=>simp at hl
    | cons m ms =>
      unfold keysOf at h
      split at h
      · rename_i x xs' h1 h2
        cases h
        have e1:=hk 0 (k,v) m rfl rfl
        simp only at e1
        rw [h1] at e1
        cases e1
        have:=lz (ms:=ms) h2 (by simpa using hl) (fun i e m' h3 h4=>hk (i + 1) e m' (by simpa using h3) (by simpa using h4))
        simp [this]
      · cases h
theorem ew {P:Program} {kt:TypeId} {key:AV} {es:List (AV×AV)} {k:Value→Option Nat→Prop} {E:Env} {u:Value} {ms:Array MapEntry} (h:fI P kt key es k) (hu:VR E key u)
    (hl:es.length=ms.size) (hk:∀ (i:Nat) (e:AV×AV) (m:MapEntry),es[i]?=some e→ms[i]?=some m→sL e.1=some m.key) (w:World) :
    ∃ r:Option (Nat×Value),k u (r.map (·.1))∧sL key=some u∧(∀ em,em=ms.isEmpty→(Instr.checkKey em 10000 kt u).run P w=.ok () w)∧(Instr.findKey kt u ms.toList).run P w=.ok r w∧∀ j v,r=some (j,v)→(ms[j]?).map (·.val)=some v:=by
  unfold fI at h
  split at h
  · rename_i x xs h1 h2
    have e0:=wX h1 hu
    subst e0
    split at h
    · rename_i c r hc hf
      have hkeys:=lz (ms:=ms.toList) h2 (by simpa using hl) (fun i e m h3 h4=>hk i e m h3 (by simpa using h4))
      obtain ⟨r2,h3,h4,h5⟩:=qn hkeys hf w
      refine ⟨r2,by rw [h4]; exact h,h1,fun em he=>?_,h3,fun j v hj=>by simpa using h5 j v hj⟩
      have:xs.isEmpty=em:=by
        have hlen:xs.length=ms.size:=by have:=congrArg List.length hkeys; simpa using this
        rw [he]
        cases xs with
        | nil=>simp at hlen; simp [Array.isEmpty,← hlen]
        | cons _ _=>simp at hlen; simp [Array.isEmpty,← hlen]
      rw [← this]
      exact ci _ w hc
    · exact False.elim h
  · exact False.elim h
section
variable {G:Gh} {p:Nat→Option (List AV)} {E:Env} {M:St} {w:World} {P:Program}
theorem cm {b:Nat} {ms:Array MapEntry} {clock:Nat} (h:w.heap[b]?=some (.map ms clock)):(getObj b).run P w=.ok (.map ms clock) w:=by
  simp [getObj,Sem.run,h]
theorem qo (hM:ad G p E M w) {t:TypeId} {m key:AV} {u v:Value} {ok:Bool} {k:AV→Prop} (h:iI P t m key ok M k) (hm:VR E m u) (hkey:VR E key v) :
    ∃ r z,k r∧VR E r z∧(Instr.lookup t u v ok).run P w=.ok z w:=by
  have ret:∀ {x:AV} {z:Value} {b:Bool},VR E x z→g5 ok x b k→∃ r zz,k r∧VR E r zz∧zz=(if ok then .tuple #[z,.bool b] else z):=by
    intro x z b hx hh
    cases ok with
    | true=>exact ⟨_,_,hh,.tup #[z,.bool b] rfl (fun m c u h1 h2=>by
        match m,h1,h2 with
        | 0,h1,h2=>simp at h1 h2; subst h1 h2; exact hx
        | 1,h1,h2=>simp at h1 h2; subst h1 h2; exact .v _ _ rfl),rfl⟩
    | false=>exact ⟨_,_,hh,hx,rfl⟩
  have zero:∀ {e:TypeId},eD P e ok k→∃ r zz z,k r∧VR E r zz∧(zeroValue e).run P w=.ok z w∧zz=(if ok then .tuple #[z,.bool false] else z):=by
    intro e hh
    unfold eD at hh
    split at hh
    · rename_i i hi
      split at hh
      · rename_i z hz
        rw [aQ] at hh
        obtain ⟨r,zz,h1,h2,h3⟩:=ret (qj E z) hh
        exact ⟨r,zz,z,h1,h2,bg hi hz w,h3⟩
      · exact False.elim hh
    · exact False.elim hh
  unfold iI at h
  split at h
  · rename_i kt e hu
    split at h
    · cases hm
      obtain ⟨r,hr,hk1,hc,hf,hv⟩:=ew (ms:=#[]) h hkey rfl (fun i e m h1=>by simp at h1) w
      have hr0:r=none:=by
        cases r with
        | none=>rfl
        | some x=>have:=hv x.1 x.2 rfl; simp at this
      subst hr0
      obtain ⟨r,zz,z,h1,h2,h3,h4⟩:=zero hr
      refine ⟨r,zz,h1,h2,?_⟩
      unfold Instr.lookup
      have hc':=hc true rfl
      simp only [Sem.run_bind,run_underlying hu,Result.andThen_ok,Sem.run_pure]
      rw [show (#[]:Array MapEntry).isEmpty=true from rfl,hc',Result.andThen_ok,hf,Result.andThen_ok]
      simp only [Sem.run_bind,h3,Result.andThen_ok,Sem.run_pure,h4]
    · rename_i id
      split at h
      · rename_i fl es ho
        have hob:=hM.obj id
        rw [ho] at hob
        cases hm with
        | mp hmu =>
          rename_i b o sz n
          rw [hmu] at hob
          obtain ⟨ms,clock,h1,⟨h2,_⟩,h3⟩:=hob
          rw [hM.hp] at h1
          obtain ⟨r,hr,hk1,hc,hf,hv⟩:=ew (ms:=ms) h hkey h2 (fun i e m h4 h5=>(h3 i e m h4 h5).1) w
          have hc':=hc ms.isEmpty rfl
          cases r with
          | none =>
            unfold iH at hr
            obtain ⟨r,zz,z,h4,h5,h6,h7⟩:=zero hr
            refine ⟨r,zz,h4,h5,?_⟩
            unfold Instr.lookup
            simp only [Sem.run_bind,run_underlying hu,Result.andThen_ok,Sem.run_pure,cm h1,hc',hf,h6,h7]
          | some jv =>
            obtain ⟨j,vv⟩:=jv
            unfold iH at hr
            simp only [Option.map_some] at hr
            split at hr
            · rename_i en hen
              have hj:=hv j vv rfl
              cases hmj:ms[j]? with
              | none=>rw [hmj] at hj; cases hj
              | some me =>
                rw [hmj] at hj
                simp only [Option.map_some,Option.some.injEq] at hj
                subst hj
                have hval:=(h3 j en me hen hmj).2
                have hval':VR E en.2 me.val:=by
                  cases fl with
                  | true=>exact hval.of_fz
                  | false=>exact hval.of_ob
                obtain ⟨r,zz,h4,h5,h6⟩:=ret hval' hr
                refine ⟨r,zz,h4,h5,?_⟩
                unfold Instr.lookup
                simp only [Sem.run_bind,run_underlying hu,Result.andThen_ok,Sem.run_pure,cm h1,hc',hf,h6]
            · exact False.elim hr
      · exact False.elim h
    · exact False.elim h
  · exact False.elim h
end
theorem fc:∀ (n:Nat) {E:Env} {a:AV} {u:Value},bD n a=true→VR E a u→VR E.fz a u
  | 0,_,_,_,h,_=>by cases h
  | n + 1,E,a,u,h,hv=>by
    have km:∀ {cs:List AV} {us:Array Value},cs.all (bD n)=true→(∀ (m:Nat) (c:AV) (u:Value),cs[m]?=some c→us[m]?=some u→VR E c u) →
        ∀ (m:Nat) (c:AV) (u:Value),cs[m]?=some c→us[m]?=some u→VR E.fz c u :=
      fun ha hc m c u h1 h2=>fc n (List.all_eq_true.1 ha c (List.mem_of_getElem? h1)) (hc m c u h1 h2)
    unfold bD at h
    cases hv with
    | bad=>exact .bad _ _
    | v _ x hx=>exact .v _ _ hx
    | nilp=>exact .nilp _
    | ptr i j hs0 hm=>cases h
    | bsl off len cap hs0 hm h1=>cases h
    | fptr j us h1 h2 h3 h4=>exact .fptr j us h1 h2 h3 h4
    | nilsl=>exact .nilsl _
    | esln=>exact .esln _
    | esl a=>exact .esl _ _
    | sln=>exact .sln _
    | sle a cap=>exact .sle _ _ _
    | sl us h1 h2 h3 h4 h5 h6 h7=>exact .sl us h1 h2 h3 h4 h5 h6 h7
    | mfn hm=>cases h
    | mfe a hm=>cases h
    | mf cap hm _ _=>cases h
    | mfxe a hm=>cases h
    | mfx cap hm _ _=>cases h
    | nn a n cap=>cases h
    | ene a=>cases h
    | msle off a hm=>cases h
    | msl _ _ _ _ hm _ _ _=>cases h
    | nilmap=>exact .nilmap _
    | mp hm=>cases h
    | yld hm=>cases h
    | nilfn=>exact .nilfn _
    | fn us ws h1 h2 h3 h4 =>
      simp only [Bool.and_eq_true] at h
      exact .fn us ws h1 (km h.1 h2) h3 (km h.2 h4)
    | agg us h1 h2=>exact .agg us h1 (km h h2)
    | tup us h1 h2=>exact .tup us h1 (km h h2)
theorem dv:∀ (n:Nat) {E:Env} {a:AV} {u:Value},jU n a=true→VR E a u→VR E.ob a u
  | 0,_,_,_,h,_=>by cases h
  | n + 1,E,a,u,h,hv=>by
    have km:∀ {cs:List AV} {us:Array Value},cs.all (jU n)=true→(∀ (m:Nat) (c:AV) (u:Value),cs[m]?=some c→us[m]?=some u→VR E c u) →
        ∀ (m:Nat) (c:AV) (u:Value),cs[m]?=some c→us[m]?=some u→VR E.ob c u :=
      fun ha hc m c u h1 h2=>dv n (List.all_eq_true.1 ha c (List.mem_of_getElem? h1)) (hc m c u h1 h2)
    unfold jU at h
    cases hv with
    | bad=>exact .bad _ _
    | v _ x hx=>exact .v _ _ hx
    | nilp=>exact .nilp _
    | ptr i j hs0 hm =>
      rename_i k b o sz n
      cases k with
      | L d=>cases h
      | O id=>exact .ptr i j hs0 hm
      | S _ _=>cases hs0
    | bsl off len cap hs0 hm h1 =>
      rename_i k b o sz n
      cases k with
      | L d=>cases h
      | O id=>exact .bsl off len cap hs0 hm h1
      | S _ _=>cases hs0
    | fptr j us h1 h2 h3 h4=>exact .fptr j us h1 h2 h3 h4
    | nilsl=>exact .nilsl _
    | esln=>exact .esln _
    | esl a=>exact .esl _ _
    | sln=>exact .sln _
    | sle a cap=>exact .sle _ _ _
    | sl us h1 h2 h3 h4 h5 h6 h7=>exact .sl us h1 h2 h3 h4 h5 h6 h7
    | mfn hm=>exact .mfn hm
    | mfe a hm=>exact .mfe a hm
    | mf cap hm h1 h2=>exact .mf cap hm h1 h2
    | mfxe a hm=>exact .mfxe a hm
    | mfx cap hm h1 h2=>exact .mfx cap hm h1 h2
    | nn=>exact .nn _ _ _ _
    | ene=>exact .ene _ _
    | msle off a hm=>exact .msle off a hm
    | msl a b c d hm h1 h2 h3=>exact .msl a b c d hm h1 h2 h3
    | nilmap=>exact .nilmap _
    | mp hm=>exact .mp hm
    | yld hm=>exact .yld hm
    | nilfn=>exact .nilfn _
    | fn us ws h1 h2 h3 h4 =>
      simp only [Bool.and_eq_true] at h
      exact .fn us ws h1 (km h.1 h2) h3 (km h.2 h4)
    | agg us h1 h2=>exact .agg us h1 (km h h2)
    | tup us h1 h2=>exact .tup us h1 (km h h2)
def av (w:World) (b:Nat) (ob:Obj):World:={ w with heap:=w.heap.setIfInBounds b ob }
theorem ru {w:World} {b i:Nat} {us:Array Value} {ty:TypeId} {fr:Nat×Nat} {v:Value} (h:w.heap[b]?=some (.cells us ty fr)):w.setCell ⟨b,i,none⟩ v=av w b (.cells (us.setIfInBounds i v) ty fr):=by
  unfold World.setCell av
  congr 1
  apply Array.ext_getElem?
  intro j
  rw [Array.getElem?_modify,Array.getElem?_setIfInBounds]
  by_cases hj:b=j
  · subst hj
    rw [if_pos rfl,if_pos rfl,h]
    have:b<w.heap.size:=(Array.getElem?_eq_some_iff.1 h).1
    rw [if_pos this]
    rfl
  · rw [if_neg hj,if_neg hj]
theorem bc {w:World} {b:Nat} {ob:Obj} (h:b<w.heap.size):(av w b ob).heap[b]?=some ob:=by
  simp [av,h]
theorem ox {w:World} {b:Nat} {x y:Obj}:av (av w b x) b y=av w b y:=by
  unfold av
  simp
theorem dO {P:Program} {b off:Nat} {ty:TypeId}:∀ (vs:List Value) (i:Nat) {w:World} {us:Array Value},w.heap[b]?=some (.cells us ty (0,0))→(∀ v∈vs,hU v=true)→off + i + vs.length≤us.size →
    (storeCells ⟨b,off,none⟩ vs i).run P w=.ok () (av w b (.cells (aZ us off vs i) ty (0,0)))
  | [],i,w,us,h,_,_=>by
    simp only [storeCells,Sem.run_pure,aZ]
    congr 1
    unfold av
    have:w.heap.setIfInBounds b (.cells us ty (0,0))=w.heap:=by
      apply Array.ext_getElem?
      intro j
      rw [Array.getElem?_setIfInBounds]
      by_cases hj:b=j
      · subst hj
        rw [if_pos rfl,if_pos (Array.getElem?_eq_some_iff.1 h).1,h]
      · rw [if_neg hj]
    rw [this]
  | v::vs,i,w,us,h,hv,hl=>by
    simp only [List.length_cons] at hl
    have hlt:off + i<us.size:=by omega
    have hn:=hv v (by simp)
    have hcell:w.cell? ⟨b,off + i,none⟩=some us[off + i]:=by
      rw [eP]
      unfold bq
      rw [h]
      exact Array.getElem?_eq_getElem hlt
    have hfr:w.frozen? ⟨b,off + i,none⟩=false:=by
      unfold World.frozen?
      rw [h]
      simp
    have hst:(store ⟨b,off + i,none⟩ v).run P w=.ok () (w.setCell ⟨b,off + i,none⟩ v):=by
      unfold store
      cases v <;> first | (cases hn; done) | (simp [Sem.run,hcell,hfr])
    unfold storeCells
    rw [Sem.run_bind,ct,hst,Result.andThen_ok,ru h]
    have hb:b<w.heap.size:=(Array.getElem?_eq_some_iff.1 h).1
    rw [dO vs (i + 1) (bc hb) (fun x hx=>hv x (by simp [hx])) (by simp; omega),ox]
    rfl
theorem hZ {P:Program} {t:TypeId} {i:TypeInfo} {b off:Nat} {ty:TypeId} {w:World} {us:Array Value} {u:Value} (hi:P.info? t=some i) (hb:w.heap[b]?=some (.cells us ty (0,0))) (hs:u.cells.size=i.size)
    (hn:∀ v∈u.cells.toList,hU v=true) (hl:off + u.cells.size≤us.size):(Instr.storeAt t (.pointer (some ⟨b,off,none⟩)) u).run P w=.ok () (av w b (.cells (aZ us off u.cells.toList 0) ty (0,0))):=by
  unfold Instr.storeAt Instr.sureAddr storeVar
  have h0:=dO (P:=P) (off:=off) u.cells.toList 0 hb hn (by simpa using hl)
  simp only [Sem.run_pure,Sem.run_bind,Result.andThen_ok,run_sizeOf hi]
  rw [if_neg (by simp [hs])]
  exact h0
theorem aX.of_rows {E':Env} {h:Array Obj} {rows:List (List AV)} {b o sz:Nat} {us:Array Value} {ty:TypeId} (h0:0<sz) (hr:∀ r∈rows,r.length=sz) (hb:h[b]?=some (.cells us ty (0,0))) (hl:o + rows.length * sz≤us.size)
    (hc:∀ (i:Nat) (row:List AV) (r:Nat) (c:AV),rows[i]?=some row→row[r]?=some c→∃ u,us[o + i * sz + r]?=some u∧VR E' c u):aX E' h rows b o sz:=by
  refine ⟨h0,hr,us,ty,hb,hl,fun m c hm=>?_⟩
  have hml:m<rows.length * sz:=by rw [← aL hr]; exact (List.getElem?_eq_some_iff.1 hm).1
  have hi:m / sz<rows.length:=Nat.div_lt_of_lt_mul (by rw [Nat.mul_comm]; exact hml)
  have hmm:m % sz<sz:=Nat.mod_lt _ h0
  have hdm:m / sz * sz + m % sz=m:=by rw [Nat.mul_comm]; exact Nat.div_add_mod m sz
  have hrow:=List.getElem?_eq_getElem hi
  have e1:=bF hr hrow hmm
  rw [hdm] at e1
  obtain ⟨u,hu,hv⟩:=hc (m / sz) _ (m % sz) c hrow (by rw [← e1]; exact hm)
  exact ⟨u,by rw [← hu]; congr 1; omega,hv⟩
theorem aX.get {E':Env} {h:Array Obj} {rows:List (List AV)} {b o sz:Nat} (ha:aX E' h rows b o sz):∃ us ty,h[b]?=some (.cells us ty (0,0))∧o + rows.length * sz≤us.size ∧
    ∀ (i:Nat) (row:List AV) (r:Nat) (c:AV),rows[i]?=some row→row[r]?=some c→∃ u,us[o + i * sz + r]?=some u∧VR E' c u:=by
  obtain ⟨h0,hr,us,ty,hb,hl,hc⟩:=ha
  refine ⟨us,ty,hb,hl,fun i row r c hi hrc=>?_⟩
  have hrl:r<sz:=by rw [← hr row (List.mem_of_getElem? hi)]; exact (List.getElem?_eq_some_iff.1 hrc).1
  obtain ⟨u,hu,hv⟩:=hc (i * sz + r) c (by rw [bF hr hi hrl]; exact hrc)
  exact ⟨u,by rw [← hu]; congr 1; omega,hv⟩
theorem aX.store {E1 E2:Env} {h':Array Obj} {rows:List (List AV)} {b o sz i j:Nat} {row cs:List AV} {vs:List Value} {us:Array Value} {ty:TypeId} (h0:0<sz) (hr:∀ r∈rows,r.length=sz) (hl:o + rows.length * sz≤us.size)
    (hc:∀ (i:Nat) (row:List AV) (r:Nat) (c:AV),rows[i]?=some row→row[r]?=some c→∃ u,us[o + i * sz + r]?=some u∧VR E1 c u)
    (hold:∀ {c:AV} {u:Value},VR E1 c u→VR E2 c u) (hnew:aO E2 cs vs) (hi:rows[i]?=some row) (hj:j + cs.length≤row.length) (hb':h'[b]?=some (.cells (aZ us (o + i * sz + j) vs 0) ty (0,0))) :
    aX E2 h' (rows.set i (splice row j cs)) b o sz:=by
  have hrow:=hr row (List.mem_of_getElem? hi)
  have hil:=(List.getElem?_eq_some_iff.1 hi).1
  refine aX.of_rows h0 (fun r hx=>?_) hb' (by rw [List.length_set,ba]; exact hl) (fun i' row' r c h1 h2=>?_)
  · rcases List.mem_or_eq_of_mem_set hx with hx | hx
    · exact hr r hx
    · subst hx; rw [di]; exact hrow
  · rw [d_]
    simp only [Nat.add_zero]
    by_cases hii:i=i'
    · subst hii
      rw [List.getElem?_set,if_pos rfl,if_pos hil] at h1
      cases h1
      rw [jo] at h2
      by_cases hin:j≤r∧r<j + cs.length∧r<row.length
      · rw [if_pos hin] at h2
        have hm:i * sz + sz≤rows.length * sz:=by rw [← Nat.succ_mul]; exact Nat.mul_le_mul_right sz hil
        obtain ⟨u,hu,hv⟩:=hnew.get h2
        refine ⟨u,?_,hv⟩
        rw [if_pos (by rw [← hnew.1]; omega),show o + i * sz + r - (o + i * sz + j)=r - j by omega]
        exact hu
      · rw [if_neg hin] at h2
        have hrl:=(List.getElem?_eq_some_iff.1 h2).1
        obtain ⟨u,hu,hv⟩:=hc i row r c hi h2
        refine ⟨u,?_,hold hv⟩
        rw [if_neg (by rw [← hnew.1]; omega)]
        exact hu
    · rw [List.getElem?_set,if_neg hii] at h1
      have hrl:r<sz:=by rw [← hr row' (List.mem_of_getElem? h1)]; exact (List.getElem?_eq_some_iff.1 h2).1
      obtain ⟨u,hu,hv⟩:=hc i' row' r c h1 h2
      refine ⟨u,?_,hold hv⟩
      have:i' * sz + sz≤i * sz∨i * sz + sz≤i' * sz:=by
        rcases Nat.lt_or_gt_of_ne hii with hlt | hlt
        · exact .inr (by rw [← Nat.succ_mul]; exact Nat.mul_le_mul_right sz hlt)
        · exact .inl (by rw [← Nat.succ_mul]; exact Nat.mul_le_mul_right sz hlt)
      rw [if_neg (by rw [← hnew.1]; omega)]
      exact hu
section
variable {G:Gh} {p:Nat→Option (List AV)} {E:Env} {M:St} {w:World} {P:Program}
theorem ad.setblk_le (hM:ad G p E M w) {key:Key} {b o sz n:Nat} (hk:E.mu key=some (.blk b o sz n)) {ob':Obj} (hsz:au (av w b ob').heap b=au w.heap b) :
    LE E ⟨E.F,E.mu,(av w b ob').heap⟩:=by
  obtain ⟨hF,hbl,hGM⟩:=hM.own _ _ _ _ _ hk
  have hoth:∀ b',b'≠b→(av w b ob').heap[b']?=w.heap[b']?:=fun b' hne=>by
    simp only [av,Array.getElem?_setIfInBounds]
    rw [if_neg (fun e=>hne e.symm)]
  refine ⟨fun _ h=>h,fun _ _ _ h=>h,fun b' h=>by rw [hM.hp]; exact hoth b' (fun e=>hF (e▸h)),fun k' b' o' s' n' _ h'=>?_⟩
  rw [hM.hp]
  by_cases hbe:b'=b
  · subst hbe; exact hsz
  · show au (av w b ob').heap b'=au w.heap b'
    unfold au; rw [hoth b' hbe]
theorem ad.setblk (hM:ad G p E M w) {key:Key} {b o sz n:Nat} (hk:E.mu key=some (.blk b o sz n)) {ob':Obj} (hsz:au (av w b ob').heap b=au w.heap b) {M':St}
    (hl:∀ d,key≠.L d→ap M'.l d=ap M.l d) (ho:∀ id,key≠.O id→M'.o[id]?=M.o[id]?) (hbb:M'.b=M.b) (hlen:M'.o.length=M.o.length)
    (hL:∀ d,key=.L d→c_ p ⟨E.F,E.mu,(av w b ob').heap⟩ (ap M'.l d) d) (hO:∀ id,key=.O id→b9 ⟨E.F,E.mu,(av w b ob').heap⟩ M'.o[id]? (E.mu (.O id)))
    (hW:∀ id,(key=.O id∨∃ i,key=.S id i)→bi ⟨E.F,E.mu,(av w b ob').heap⟩ id M'.o[id]?) :
    LE E ⟨E.F,E.mu,(av w b ob').heap⟩∧ad G p ⟨E.F,E.mu,(av w b ob').heap⟩ M' (av w b ob'):=by
  obtain ⟨hF,hbl,hGM⟩:=hM.own _ _ _ _ _ hk
  have hoth:∀ b',b'≠b→(av w b ob').heap[b']?=w.heap[b']?:=fun b' hne=>by
    simp only [av,Array.getElem?_setIfInBounds]
    rw [if_neg (fun e=>hne e.symm)]
  have hsize:(av w b ob').heap.size=w.heap.size:=by simp [av]
  have hle:LE E ⟨E.F,E.mu,(av w b ob').heap⟩:=by
    refine ⟨fun _ h=>h,fun _ _ _ h=>h,fun b' h=>by rw [hM.hp]; exact hoth b' (fun e=>hF (e▸h)),fun k' b' o' s' n' _ h'=>?_⟩
    rw [hM.hp]
    by_cases hbe:b'=b
    · subst hbe; exact hsz
    · show au (av w b ob').heap b'=au w.heap b'
      unfold au; rw [hoth b' hbe]
  have hblk:∀ k' b' o' s' n',k'≠key→E.mu k'=some (.blk b' o' s' n')→(av w b ob').heap[b']?=E.h[b']?:=fun k' b' o' s' n' hne h'=>by
    rw [hM.hp]
    exact hoth b' (fun e=>hne (by subst e; exact hM.inj _ _ _ _ _ _ _ _ _ h' hk))
  refine ⟨hle,rfl,hM.os,hM.tape,hM.output,by rw [hsize]; exact hM.size,fun b' h1 h2=>?_,hM.F0,fun b' h=>by rw [hsize]; exact hM.Flt b' h,hM.Fnew,fun k' b' o' s' n' h=>?_,hM.inj,fun d=>?_,fun id=>?_,fun id hid=>?_,by rw [hbb,hlen]; exact hM.bl,fun b' hb'=>by
    rw [← hM.szs b' hb']
    by_cases hbe:b'=b
    · subst hbe; exact hsz
    · unfold au; rw [hoth b' hbe],fun e row h=>by
    obtain ⟨h1,h2⟩:=hM.pk e row h
    exact ⟨h1,(hl e (fun e'=>by rw [e',h1] at hk; cases hk)).trans h2⟩,fun id=>?_⟩
  · rw [hoth b' (fun e=>?_)]
    · exact hM.keep b' h1 h2
    · subst e
      rcases hGM with hg | hg
      · exact h2 hg
      · omega
  · rw [hsize]; exact hM.own k' b' o' s' n' h
  · by_cases hd:key=.L d
    · exact hL d hd
    · rw [hl d hd]
      have:=hM.loc d
      revert this
      cases ap M.l d with
      | none=>exact fun h=>h
      | some row =>
        rintro (⟨b',h1,h2,h3,us,ty,h4,h5,h6⟩ | h)
        · refine .inl ⟨b',h1,h2,h3,us,ty,(hblk _ _ _ _ _ (fun e=>hd e.symm) h1).trans h4,h5,fun m c hc=>?_⟩
          obtain ⟨u,hu,hv⟩:=h6 m c hc
          exact ⟨u,hu,hv.mono hle⟩
        · exact .inr h
  · by_cases hd:key=.O id
    · exact hO id hd
    · rw [ho id hd]
      have:=hM.obj id
      revert this
      cases M.o[id]? with
      | none =>
        show b9 E _ (E.mu (.O id))→b9 _ _ (E.mu (.O id))
        cases E.mu (.O id) <;> exact fun h=>h
      | some ob =>
        cases ob with
        | dead =>
          show b9 E _ (E.mu (.O id))→b9 _ _ (E.mu (.O id))
          cases E.mu (.O id) <;> exact fun h=>h
        | arr fl sz' rows =>
          show b9 E _ (E.mu (.O id))→b9 _ _ (E.mu (.O id))
          cases hm:E.mu (.O id) with
          | none=>exact fun h=>h
          | some mv =>
            cases mv with
            | virt=>exact fun h=>h
            | blk b' o' s' n' =>
              rintro ⟨h1,h2,h3,us,ty,h4,h5,h6⟩
              refine ⟨h1,h2,h3,us,ty,(hblk _ _ _ _ _ (fun e=>hd e.symm) hm).trans h4,h5,fun m c hc=>?_⟩
              obtain ⟨u,hu,hv⟩:=h6 m c hc
              refine ⟨u,hu,?_⟩
              cases fl with
              | true=>exact hv.mono hle.fz
              | false=>exact hv.mono hle.ob
        | lp pl ps t asg body st =>
          show b9 E _ (E.mu (.O id))→b9 _ _ (E.mu (.O id))
          cases hm:E.mu (.O id) with
          | none=>exact fun h=>h
          | some mv =>
            cases mv with
            | virt=>exact fun h=>h
            | blk b o s n =>
              rintro ⟨r,h1,h2⟩
              exact ⟨r,(hblk _ _ _ _ _ (fun e=>hd e.symm) hm).trans h1,h2.mono hle.ob⟩
        | own _ _ _ _ =>
          show b9 E _ (E.mu (.O id))→b9 _ _ (E.mu (.O id))
          cases E.mu (.O id) with
          | none=>exact fun h=>h.elim
          | some mv=>cases mv <;> exact fun h=>h
        | mapo fl es =>
          show b9 E _ (E.mu (.O id))→b9 _ _ (E.mu (.O id))
          cases hm:E.mu (.O id) with
          | none=>exact fun h=>h
          | some mv =>
            cases mv with
            | virt=>exact fun h=>h
            | blk b' o' s' n' =>
              rintro ⟨ms,clock,h1,h2,h3⟩
              refine ⟨ms,clock,(hblk _ _ _ _ _ (fun e=>hd e.symm) hm).trans h1,h2,fun i e m h4 h5=>?_⟩
              obtain ⟨h6,h7⟩:=h3 i e m h4 h5
              refine ⟨h6,?_⟩
              cases fl with
              | true=>exact h7.mono hle.fz
              | false=>exact h7.mono hle.ob
  · rcases hM.old id (by rw [← hbb]; exact hid) with h | h
    · by_cases hd:key=.O id
      · subst hd
        have:=hM.obj id
        rw [h,hk] at this
        exact this.elim
      · exact .inl (by rw [ho id hd]; exact h)
    · exact .inr h
  · by_cases h:key=.O id∨∃ i,key=.S id i
    · exact hW id h
    · rw [ho id (fun e=>h (.inl e))]
      refine (hM.ow id).mono rfl (fun _=>rfl) hle.fz hle.ob (fun k b o s n hk' hm=>hblk k b o s n (fun e=>h ?_) hm)
      rcases hk' with rfl | ⟨i,rfl⟩
      · exact .inl e.symm
      · exact .inr ⟨i,e.symm⟩
theorem s0 {d:Nat} {Q:Nat→Prop} (id:Nat) (h:Key.L d=.O id∨∃ i,Key.L d=.S id i):Q id:=by
  rcases h with e | ⟨i,e⟩ <;> cases e
theorem ad.ow_set (hM:ad G p E M w) {id:Nat} {x y:Ob} (hob:M.o[id]?=some x) (hx:du (some x)=true) (hy:du (some y)=true) {E':Env} (hmu:E'.mu=E.mu) :
    ∀ j,(Key.O id=.O j∨∃ i,Key.O id=.S j i)→bi E' j (M.o.set id y)[j]?:=by
  intro j h
  rcases h with e | ⟨i,e⟩ <;> cases e
  have hlt:id<M.o.length:=(List.getElem?_eq_some_iff.1 hob).1
  have h:=hM.ow id
  rw [hob,bi.not hx] at h
  rw [List.getElem?_set_self hlt,bi.not hy,hmu]
  exact h
theorem ea {l:List (Nat×List AV)} {d:Nat} {row row':List AV} (h:ap l d=some row) (e:Nat):ap (jV l d row') e=if d=e then some row' else ap l e:=by
  induction l with
  | nil=>cases h
  | cons x xs ih =>
    obtain ⟨x1,x2⟩:=x
    unfold ap at h
    unfold jV
    by_cases hx:x1=d
    · subst hx
      rw [if_pos rfl]
      show (if x1=e then some row' else ap xs e)=(if x1=e then some row' else (if x1=e then some x2 else ap xs e))
      by_cases he:x1=e
      · rw [if_pos he,if_pos he]
      · rw [if_neg he,if_neg he,if_neg he]
    · rw [if_neg hx] at h ⊢
      show (if x1=e then some x2 else ap (jV xs d row') e)=(if d=e then some row' else (if x1=e then some x2 else ap xs e))
      rw [ih h]
      by_cases he:x1=e
      · rw [if_pos he,if_pos he,if_neg (fun hd=>hx (he.trans hd.symm))]
      · rw [if_neg he,if_neg he]
end
end A
end Go.Proofs.Ytaekcekecdocnaa
