/- Stores, boxes, references. Nothing is claimed here of the program. -/
import Derived.Test.YtaekcekecdocnaaK2
import Derived.Deep.AppendSrc
import Derived.Laws.BytesString
import Derived.IntWalk
namespace Go.Proofs.Ytaekcekecdocnaa
namespace A
open Go
open Go.RowKit (Below)
theorem pi {P : Program} {f : Nat} {fn : Func} {c : Code} (hf : P.funcs[f]? = some fn) (hb : fn.body = some c) (hn : (fn.name == "runtime.NumGoroutine") = false) (args : Array Value) (w : World) :
    (callFunc f args).run P w=.ok (.enter f args) w:=by
  unfold callFunc
  have hn' : ¬ fn.name = "runtime.NumGoroutine" := by simpa using hn
  simp [run_program,hf,hn',hb]
def j2 (P : Program) (f : Nat) : Prop := ∃ fn c, P.funcs[f]? = some fn ∧ fn.body = some c ∧ (fn.name == "runtime.NumGoroutine") = false
def qp (P:Program) (f:Nat) (args:List AV) (r:AV):Prop :=
  j2 P f∧∀ (F:Nat→Prop) (w:World) (us:Array Value),(∀ b,F b→b<w.heap.size)→qh ⟨F,fun _=>none,w.heap⟩→aO ⟨F,fun _=>none,w.heap⟩ args us.toList →
    Calls P f us w fun e w'=>∃ v F',e=.returned v∧VR ⟨F',fun _=>none,w'.heap⟩ r v∧Below w.heap.size w w'∧(∀ b,F b→F' b)∧(∀ b,F' b→b<w'.heap.size)∧(∀ b,F' b→b<w.heap.size→F b)
def bW (P:Program) (f:Nat) (args:List AV) (K:AV→Prop):Prop:=∃ r,qp P f args r∧K r
theorem j3:∀ (n:Nat) {E E':Env} {a:AV} {u:Value},mC n a=true→VR E a u→VR E' a u
  | 0,_,_,_,_,h,_=>by cases h
  | n + 1,E,E',a,u,h,hv=>by
    have km:∀ {cs:List AV} {us:Array Value},cs.all (mC n)=true→(∀ (m:Nat) (c:AV) (u:Value),cs[m]?=some c→us[m]?=some u→VR E c u) →
        ∀ (m:Nat) (c:AV) (u:Value),cs[m]?=some c→us[m]?=some u→VR E' c u :=
      fun ha hc m c u h1 h2=>j3 n (List.all_eq_true.1 ha c (List.mem_of_getElem? h1)) (hc m c u h1 h2)
    unfold mC at h
    cases hv with
    | v _ x hx=>exact .v _ _ hx
    | nilp=>exact .nilp _
    | nilsl=>exact .nilsl _
    | esln=>exact .esln _
    | esl a=>exact .esl _ _
    | nilmap=>exact .nilmap _
    | nilfn=>exact .nilfn _
    | agg us h1 h2=>exact .agg us h1 (km h h2)
    | tup us h1 h2=>exact .tup us h1 (km h h2)
    | bad=>cases h
    | ptr i j hs0 hm=>cases h
    | bsl off len cap hs0 hm h1=>cases h
    | fptr j us h1 h2 h3 h4=>cases h
    | sln=>cases h
    | sle a cap=>cases h
    | sl us h1 h2 h3 h4 h5 h6 h7=>cases h
    | mfn hm=>cases h
    | mfe a hm=>cases h
    | mf cap hm _ _=>cases h
    | mfxe a hm=>cases h
    | mfx cap hm _ _=>cases h
    | nn a n cap=>cases h
    | ene a=>cases h
    | msle off a hm=>cases h
    | msl _ _ _ _ hm _ _ _=>cases h
    | mp hm=>cases h
    | fn us ws h1 h2 h3 h4=>cases h
    | yld hm=>cases h
def Same (E E':Env) (M M':St):Prop:=E'.mu=E.mu∧∀ d,ap M.l d≠none→ap M'.l d≠none
theorem Same.rfl' {E E':Env} {M:St} (h:E'.mu=E.mu):Same E E' M M:=⟨h,fun _ h=>h⟩
section
variable {G:Gh} {p:Nat→Option (List AV)} {E:Env} {M:St} {w:World} {P:Program}
theorem qq (hM:ad G p E M w) {pa:AV} {up u:Value} {cs:List AV} {K:St→Prop} {t:TypeId} {i:TypeInfo} (h:fV M pa cs K) (hp:VR E pa up) (hcs:aO E cs u.cells.toList) (hok:∀ c∈cs,gl c=true)
    (hi:P.info? t=some i) (hlen:cs.length=i.size):∃ M' w' E',K M'∧(Instr.storeAt t up u).run P w=.ok () w'∧LE E E'∧ad G p E' M' w'∧Same E E' M M':=by
  have hn:∀ v∈u.cells.toList,hU v=true:=by
    intro v hv
    obtain ⟨m,hm,hmv⟩:=List.getElem_of_mem hv
    have hmc:m<cs.length:=by rw [hcs.1]; exact hm
    exact jp (hok _ (List.getElem_mem hmc)) (hcs.2 m _ v (List.getElem?_eq_getElem hmc) (by rw [← hmv]; exact List.getElem?_eq_getElem hm))
  have hcl:cs.length=u.cells.size:=by simpa using hcs.1
  unfold fV at h
  split at h
  · rename_i d ii j
    cases hp with
    | ptr _ _ hs0 hm =>
      rename_i b o sz n
      split at h
      · rename_i row hrow
        split at h
        · replace h:=ab h; obtain ⟨hb,h⟩:=h
          rw [bM,dN] at h
          have hle:=Nat.le_of_ble_eq_true hb
          have hloc:=hM.loc d
          rw [hrow] at hloc
          rcases hloc with ⟨b',h1,h2⟩ | ⟨h1,_⟩
          · rw [hm] at h1
            cases h1
            obtain ⟨us,ty,hblk,hsz,hget⟩:=h2.get
            have h0:=h2.1
            rw [hM.hp] at hblk
            simp only [List.length_singleton,Nat.one_mul,Nat.zero_add] at hsz
            have hrun:=hZ (P:=P) (t:=t) (b:=b) (off:=0 + 0 * row.length + j) hi hblk (by rw [← hcl,hlen]) hn (by simp; omega)
            have hblt:b<w.heap.size:=(Array.getElem?_eq_some_iff.1 hblk).1
            have hs:au (av w b (.cells (aZ us (0 + 0 * row.length + j) u.cells.toList 0) ty (0,0))).heap b=au w.heap b:=by
              unfold au
              rw [bc hblt,hblk]
              simp [ba]
            have hle':=hM.setblk_le hm hs
            have hst:=aX.store (E2:=⟨E.F,E.mu,_⟩) h0 h2.2.1 (by simpa using hsz) hget (fun hv=>hv.mono hle') (hcs.mono hle') (i:=0) rfl hle (ty:=ty) (bc hblt)
            obtain ⟨_,hS⟩:=hM.setblk hm hs (M':={ t:=M.t,l:=jV M.l d (splice row j cs),o:=M.o,b:=M.b })
              (fun e he=>by rw [ea hrow,if_neg (fun hd=>he (by rw [hd]))]) (fun _ _=>rfl) rfl rfl
              (fun e he=>by
                cases he
                rw [ea hrow,if_pos rfl]
                exact .inl ⟨b,by rw [di]; exact hm,by rw [di]; exact hst⟩)
              (fun e he=>by cases he) s0
            exact ⟨_,_,_,h,hrun,hle',hS,rfl,fun e he=>by
              show ap (jV M.l d (splice row j cs)) e≠none
              rw [ea hrow]
              by_cases hd:d=e
              · rw [if_pos hd]; exact fun h=>by cases h
              · rw [if_neg hd]; exact he⟩
          · rw [hm] at h1; cases h1
        · exact False.elim h
      · exact False.elim h
  · rename_i id ii j
    cases hp with
    | ptr _ _ hs0 hm =>
      rename_i b o sz n
      split at h
      · rename_i fl sz' rows hob
        split at h
        · rename_i row hrow
          replace h:=ab h; obtain ⟨hb,h⟩:=h
          simp only [Bool.and_eq_true] at hb
          rw [bM,ak] at h
          have hle:=Nat.le_of_ble_eq_true hb.1
          have ho:=hM.obj id
          rw [hob,hm] at ho
          obtain ⟨⟨rfl,rfl⟩,h2⟩:=ho
          obtain ⟨us,ty,hblk,hsz,hget⟩:=h2.get
          have h0:=h2.1
          rw [hM.hp] at hblk
          have hrl:=h2.2.1 row (List.mem_of_getElem? hrow)
          have hil:=(List.getElem?_eq_some_iff.1 hrow).1
          have hmul:ii * sz + sz≤rows.length * sz:=by rw [← Nat.succ_mul]; exact Nat.mul_le_mul_right sz hil
          have hrun:=hZ (P:=P) (t:=t) (b:=b) (off:=o + ii * sz + j) hi hblk (by rw [← hcl,hlen]) hn (by omega)
          have hblt:b<w.heap.size:=(Array.getElem?_eq_some_iff.1 hblk).1
          have hs:au (av w b (.cells (aZ us (o + ii * sz + j) u.cells.toList 0) ty (0,0))).heap b=au w.heap b:=by
            unfold au
            rw [bc hblt,hblk]
            simp [ba]
          have hle':=hM.setblk_le hm hs
          have hst:aX (a6 ⟨E.F,E.mu,(av w b (.cells (aZ us (o + ii * sz + j) u.cells.toList 0) ty (0,0))).heap⟩ (fl&&cs.all (bD 4))) (av w b (.cells (aZ us (o + ii * sz + j) u.cells.toList 0) ty (0,0))).heap (rows.set ii (splice row j cs)) b o sz:=by
            have hnew:aO (a6 ⟨E.F,E.mu,(av w b (.cells (aZ us (o + ii * sz + j) u.cells.toList 0) ty (0,0))).heap⟩ (fl&&cs.all (bD 4))) cs u.cells.toList:=by
              have hcs':=hcs.mono hle'
              refine ⟨hcs'.1,fun m c v h3 h4=>?_⟩
              have hmem:=List.mem_of_getElem? h3
              cases hf:(fl&&cs.all (bD 4)) with
              | true =>
                simp only [Bool.and_eq_true] at hf
                exact fc 4 (List.all_eq_true.1 hf.2 c hmem) (hcs'.2 m c v h3 h4)
              | false=>exact dv 4 (List.all_eq_true.1 hb.2 c hmem) (hcs'.2 m c v h3 h4)
            refine aX.store h0 h2.2.1 hsz hget (fun {c u} hv=>?_) hnew hrow hle (bc hblt)
            cases fl with
            | true =>
              cases hf:cs.all (bD 4) with
              | true=>exact hv.mono hle'.fz
              | false=>exact (hv.mono hle'.fz).fz_ob
            | false=>exact hv.mono hle'.ob
          obtain ⟨_,hS⟩:=hM.setblk hm hs (M':={ t:=M.t,l:=M.l,o:=M.o.set id (.arr (fl&&cs.all (bD 4)) sz (rows.set ii (splice row j cs))),b:=M.b })
            (fun _ _=>rfl) (fun e he=>by simp only [List.getElem?_set]; rw [if_neg (fun hd=>he (by rw [hd]))]) rfl (by simp)
            (fun e he=>by cases he)
            (fun e he=>by
              cases he
              have hlt:id<M.o.length:=(List.getElem?_eq_some_iff.1 hob).1
              show b9 _ (M.o.set id _)[id]? _
              rw [List.getElem?_set_self hlt,hm]
              exact ⟨⟨rfl,by simp⟩,hst⟩) (hM.ow_set hob rfl rfl rfl)
          exact ⟨_,_,_,h,hrun,hle',hS,rfl,fun _ h=>h⟩
        · exact False.elim h
      · exact False.elim h
  · exact False.elim h
def jq (P:Program) (G:Gh) (p:Nat→Option (List AV)) (E:Env) (M:St) (o:Oper) (a:Act) (w:World) (k:AV→St→Prop):Prop :=
  ∀ (next:Act→World→Prop) (Q:Exit→Act→World→Prop),(∀ r z E' w' M',k r M'→VR E' r z→LE E E'→Same E E' M M'→ad G p E' M' w'→next (a.put o.dst z) w')→o.wp P a w next Q
theorem uQ {C:Ctx} (hM:ad G p E M w) {o:Oper} {vs:List AV} {a:Act} {k:AV→St→Prop} (h:oZ C o vs M k) (hv:aO E vs (o.op.operands.toList.map a.eval)):jq C.P G p E M o a w k:=by
  intro next Q hn
  unfold oZ at h
  split at h
  · rename_i t X Y x y ho
    rw [ho] at hv
    obtain ⟨u,us,e,hc,hn1⟩:=hv.uncons
    obtain ⟨u1,us1,rfl,hc1,hn2⟩:=hn1.uncons
    simp [Op.operands] at e
    obtain ⟨cs,h,hcs,hok⟩:=gw h hc1
    split at h
    · rename_i i hi
      replace h:=ab h; obtain ⟨hb,h⟩:=h
      obtain ⟨M',w',E',hK,hrun,hle,hS,hsm⟩:=qq (P:=C.P) hM h hc hcs hok hi (Nat.eq_of_beq_eq_true hb)
      unfold Oper.wp
      have:(execOp a.eval o).run C.P w=.ok .skip w':=by simp [execOp,ho,e.1,e.2.1,hrun]
      rw [this]
      exact hn _ undef _ _ _ hK (.bad _ _) hle hsm hS
    · exact False.elim h
  · exact False.elim h
end
def oy (E:Env) (w:World) (_sz:Nat) (fl:Bool) (rows:List (List AV)) (u:Value):Prop :=
  ∃ (A:Option Addr) (c:Nat) (us:List Value),u=.slice A rows.length c∧rows.length≤c∧aO (a6 E fl) rows.flatten us∧(A=none→rows=[])∧∀ a,A=some a→∀ j v,us[j]?=some v→w.cell? (a.add j)=some v
theorem aO.rowget {E:Env} {rows:List (List AV)} {us:List Value} {sz:Nat} (h:aO E rows.flatten us) (hr:∀ r∈rows,r.length=sz) {i r:Nat} {row:List AV} {c:AV} (h1:rows[i]?=some row) (h2:row[r]?=some c) :
    ∃ u,us[i * sz + r]?=some u∧VR E c u:=by
  have hrl:r<sz:=by rw [← hr row (List.mem_of_getElem? h1)]; exact (List.getElem?_eq_some_iff.1 h2).1
  exact h.get (by rw [bF hr h1 hrl]; exact h2)
theorem aX.slc {E':Env} {h:Array Obj} {rows:List (List AV)} {b o sz:Nat} (ha:aX E' h rows b o sz):∃ us,aO E' rows.flatten us∧∀ j v,us[j]?=some v→bq h b (o + j)=some v:=by
  obtain ⟨h0,hr,us,ty,hb,hl,hc⟩:=ha
  have hfl:=aL hr
  refine ⟨(us.toList.drop o).take (rows.length * sz),⟨by rw [hfl]; simp; omega,fun m c u h1 h2=>?_⟩,fun j v hv=>?_⟩
  · have hm:m<rows.length * sz:=by rw [← hfl]; exact (List.getElem?_eq_some_iff.1 h1).1
    rw [List.getElem?_take,if_pos hm,List.getElem?_drop,Array.getElem?_toList] at h2
    obtain ⟨u',hu',hv⟩:=hc m c h1
    rw [hu'] at h2
    cases h2
    exact hv
  · rw [List.getElem?_take] at hv
    split at hv
    · rw [List.getElem?_drop,Array.getElem?_toList] at hv
      unfold bq
      rw [hb]
      exact hv
    · cases hv
theorem oy.empty {E:Env} {w:World} {sz:Nat} {fl:Bool} {A:Option Addr} {c:Nat}:oy E w sz fl [] (.slice A 0 c):=⟨A,c,[],rfl,Nat.zero_le _,.nil _,fun _=>rfl,fun _ _ j v h=>by simp at h⟩
section
variable {G:Gh} {pd:Nat→Option (List AV)} {p:Nat→Option (List AV)} {E:Env} {S:St} {M:St} {w:World} {P:Program}
theorem aX.slC (hh:E.h=w.heap) {fl:Bool} {rows:List (List AV)} {b o sz c:Nat} (ha:aX (a6 E fl) E.h rows b o sz) (hc:rows.length≤c):oy E w sz fl rows (.slice (some ⟨b,o,none⟩) rows.length c):=by
  obtain ⟨us,h1,h2⟩:=ha.slc
  refine ⟨_,c,us,rfl,hc,h1,fun h=>(by cases h),fun a he j v hv=>?_⟩
  cases he
  rw [ct,eP,← hh]
  exact h2 j v hv
theorem vZ (hM:ad G p E M w) {id:Nat} {u:Value} {fl:Bool} {sz:Nat} {rows:List (List AV)} (ho:M.o[id]?=some (.arr fl sz rows)) (hx:VR E (.mf id) u):oy E w sz fl rows u∧∀ r∈rows,r.length=sz:=by
  rcases cj hM ho with ⟨h1,h2⟩ | ⟨b,o,h1,h2⟩
  · subst h2
    refine ⟨?_,fun r hr=>by cases hr⟩
    cases hx with
    | mfn hm=>exact oy.empty
    | mfe a hm=>exact oy.empty
    | mf cap hm _ _=>rw [h1] at hm; cases hm
  · refine ⟨?_,h2.2.1⟩
    cases hx with
    | mfn hm=>rw [h1] at hm; cases hm
    | mfe a hm=>rw [h1] at hm; cases hm
    | mf cap hm hn hc =>
      rw [h1] at hm
      cases hm
      exact h2.slC hM.hp hn
theorem pj {E':Env} {h:Array Obj} {rows:List (List AV)} {b o sz:Nat} (ha:aX E' h rows b o sz) {off len:Nat} (hl:off + len≤rows.length):aX E' h ((rows.drop off).take len) b (o + off * sz) sz:=by
  rcases ha.sub off len with h1 | h1
  · exact h1
  · obtain ⟨hsz,hr,us,ty,hb,hll,hc⟩:=ha
    rw [h1]
    refine ⟨hsz,fun r hr=>(by cases hr),us,ty,hb,?_,fun m c hc=>(by simp at hc)⟩
    have:off * sz≤rows.length * sz:=Nat.mul_le_mul_right _ (by omega)
    simp
    omega
theorem t9 (hM:ad G p E M w) {id off len ext:Nat} {u:Value} {fl:Bool} {sz:Nat} {rows:List (List AV)} (ho:M.o[id]?=some (.arr fl sz rows)) (hx:VR E (.msl id off len ext) u) :
    oy E w sz fl ((rows.drop off).take len) u∧∀ r∈(rows.drop off).take len,r.length=sz:=by
  rcases cj hM ho with ⟨h1,h2⟩ | ⟨b,o,h1,h2⟩
  · subst h2
    refine ⟨?_,fun r hr=>by simp at hr⟩
    cases hx with
    | msle off a hm=>simpa using oy.empty
    | msl off len ext cap hm _ _ _=>rw [h1] at hm; cases hm
  · refine ⟨?_,fun r hr=>h2.2.1 r (List.mem_of_mem_drop (List.mem_of_mem_take hr))⟩
    cases hx with
    | msle off a hm=>simpa using oy.empty
    | msl off len ext cap hm h3 h4 h5 =>
      rw [h1] at hm
      cases hm
      have hlen:((rows.drop off).take len).length=len:=by simp; omega
      have:=(pj h2 (off:=off) (len:=len) (by omega)).slC hM.hp (c:=cap) (by rw [hlen]; omega)
      rw [hlen] at this
      exact this
theorem yb {rows:List (List AV)} {u:Value} {sz:Nat} (hM:ad G p E M w) (hb:q_ sz rows=true) (hx:VR E (.sl rows) u):oy E w sz true rows u∧∀ r∈rows,r.length=sz:=by
  cases hx with
  | sln=>exact ⟨oy.empty,fun r hr=>by cases hr⟩
  | sle a cap=>exact ⟨oy.empty,fun r hr=>by cases hr⟩
  | sl us h1 h2 h3 h4 h5 h6 h7 =>
    refine ⟨⟨_,_,us,rfl,h7,⟨h3.symm,h4⟩,fun h=>(by cases h),fun a he j v hv=>?_⟩,?_⟩
    · cases he
      rw [ct,eP,← hM.hp]
      exact h6 j v hv
    · cases rows with
      | nil=>exact fun r hr=>by cases hr
      | cons r rs =>
        have e1:=h2 r (by simp)
        have e2:=Nat.eq_of_beq_eq_true hb
        intro x hx
        rw [h2 x hx,← e1,e2]
theorem fL (hM:ad G p E M w) {sz:Nat} {x:AV} {u:Value} {k:Bool→List (List AV)→Prop} (h:eq sz M x k) (hx:VR E x u) :
    ∃ fl src,k fl src∧(∀ r∈src,r.length=sz)∧(oy E w sz fl src u∨∃ s,u=.string s∧sz=1∧fl=true∧src.length=s.size∧aO E.fz src.flatten (byteCells s)):=by
  unfold eq at h
  split at h
  · cases hx; exact ⟨_,_,h,fun r hr=>(by cases hr),.inl oy.empty⟩
  · cases hx <;> exact ⟨_,_,h,fun r hr=>(by cases hr),.inl oy.empty⟩
  · replace h:=ab h; obtain ⟨hb,h⟩:=h
    obtain ⟨h1,h2⟩:=yb hM hb hx
    exact ⟨_,_,h,h2,.inl h1⟩
  · split at h
    · rename_i fl sz' rows ho
      replace h:=ab h; obtain ⟨hb,h⟩:=h
      have:=Nat.eq_of_beq_eq_true hb
      subst this
      obtain ⟨h1,h2⟩:=vZ hM ho hx
      exact ⟨_,_,h,h2,.inl h1⟩
    · exact False.elim h
  · split at h
    · rename_i fl sz' rows ho
      replace h:=ab h; obtain ⟨hb,h⟩:=h
      have:=Nat.eq_of_beq_eq_true hb
      subst this
      obtain ⟨h1,h2⟩:=t9 hM ho hx
      exact ⟨_,_,h,h2,.inl h1⟩
    · exact False.elim h
  · rename_i s
    replace h:=ab h; obtain ⟨hb,h⟩:=h
    obtain ⟨rfl,_⟩:=hx.vI
    refine ⟨_,_,h,fun r hr=>?_,.inr ⟨s,rfl,Nat.eq_of_beq_eq_true hb,rfl,?_,?_⟩⟩
    · obtain ⟨b,_,rfl⟩:=List.mem_map.1 hr
      exact (Nat.eq_of_beq_eq_true hb).symm
    · rw [List.length_map,Array.length_toList]; rfl
    · have:(s.data.toList.map fun b=>[AV.v (.int .u8 b.toNat)]).flatten=s.data.toList.map fun b=>AV.v (.int .u8 b.toNat):=by
        induction s.data.toList with
        | nil=>rfl
        | cons a as ih=>simp [ih]
      rw [this]
      refine ⟨by simp [byteCells],fun m c u h1 h2=>?_⟩
      unfold byteCells at h2
      rw [List.getElem?_map,Option.map_eq_some_iff] at h1 h2
      obtain ⟨b1,h3,rfl⟩:=h1
      obtain ⟨b2,h4,rfl⟩:=h2
      rw [h3] at h4
      cases h4
      exact .v _ _ rfl
  · rename_i id off len
    cases hx with
    | bsl _ _ cap hs0 hm hcap =>
      rename_i b o sz' n
      obtain ⟨row,us,hk0,hu,hc⟩:=mQ hM hm h
      obtain ⟨hb,hk⟩:=ab hk0
      clear hk0
      simp only [Bool.and_eq_true,Nat.beq_eq,Nat.ble_eq] at hb
      obtain ⟨⟨h1,h2⟩,h3⟩:=hb
      subst h1
      have hlen:(((row.drop off).take len).map fun c=>[c]).length=len:=by simp; omega
      have hfl:(((row.drop off).take len).map fun c=>[c]).flatten=(row.drop off).take len:=by
        induction (row.drop off).take len with
        | nil=>rfl
        | cons a as ih=>simp [ih]
      refine ⟨_,_,hk,fun r hr=>?_,.inl ⟨some ⟨b,o + off,none⟩,cap,(us.drop off).take len,by rw [hlen],by rw [hlen]; exact hcap,?_,fun h=>(by cases h),fun a ha j v hv=>?_⟩⟩
      · obtain ⟨c,_,rfl⟩:=List.mem_map.1 hr
        rfl
      · rw [hfl]
        have h5:=(hu.drop off).take len
        exact ⟨h5.1,fun m c u hc' hu'=>j3 2 (List.all_eq_true.1 h3 c (List.mem_of_getElem? hc')) (h5.2 m c u hc' hu')⟩
      · cases ha
        rw [List.getElem?_take] at hv
        split at hv
        · rw [List.getElem?_drop] at hv
          have:=hc _ _ hv
          rw [ct,eP]
          rw [show o + off + j=o + 0 * sz' + (off + j) by omega]
          exact this
        · cases hv
  · exact False.elim h
theorem iZ {E:Env}:∀ {rows:List (List AV)} {bs:List UInt8} {us:List Value},bytesOf rows=some bs→aO E rows.flatten us→rows.length=us.length∧∃ ns:List Int,us=ns.map (Value.int .u8)∧bs=ns.map fun n=>UInt8.ofNat n.toNat
  | [],bs,us,h,hv=>by
    simp only [bytesOf,Option.some.injEq] at h
    subst h
    have:=hv.unnil
    subst this
    exact ⟨rfl,[],rfl,rfl⟩
  | r::rs,bs,us,h,hv=>by
    unfold bytesOf at h
    split at h
    · rename_i e; cases e
    · rename_i n rs' e
      cases e
      split at h
      · rename_i bs' hb
        cases h
        rw [List.flatten_cons] at hv
        obtain ⟨u,us',rfl,h1,h2⟩:=hv.uncons
        obtain ⟨rfl,_⟩:=h1.vI
        obtain ⟨h3,ns,rfl,rfl⟩:=iZ hb h2
        exact ⟨by simpa using h3,n::ns,rfl,rfl⟩
      · cases h
    · cases h
theorem s3 (ns:List Int):∀ s:ByteArray,ns.foldl (fun r n=>r.push (UInt8.ofNat n.toNat)) s=⟨(s.data.toList++ns.map fun n=>UInt8.ofNat n.toNat).toArray⟩:=by
  induction ns with
  | nil=>intro s; cases s; simp
  | cons n ns ih =>
    intro s
    rw [List.foldl_cons,ih]
    simp [ByteArray.push]
theorem wY {x:AV} {s:ByteArray} (h:VR E x (.string s)) (hv:(!(yJ x))=true):x=.bad:=by
  cases h with
  | bad=>rfl
  | v _ _=>cases hv
theorem oz (hM:ad G p E M w) {src dst:TypeId} {x:AV} {u:Value} {k:AV→Prop} (h:cw P src dst x M k) (hx:VR E x u) :
    ∃ r z,k r∧VR E r z∧(convert src dst u).run P w=.ok z w:=by
  unfold cw at h
  split at h
  · rename_i e h1 h2
    split at h
    · rename_i he
      obtain ⟨hnv,h⟩:=ab h
      have hrk:=h
      obtain ⟨fl,src',hk,hr,hs⟩:=fL hM h hx
      split at hk
      · rename_i bs hb
        rcases hs with ⟨A,c,us,rfl,hc,hv,hA,hcell⟩ | ⟨s,rfl,_,_,_,_⟩
        · refine ⟨_,_,hk,.v _ _ rfl,?_⟩
          obtain ⟨h3,ns,rfl,rfl⟩:=iZ hb hv
          rw [run_convert_bytes_string w src dst e A _ c h1 he h2]
          cases A with
          | none =>
            have:=hA rfl
            subst this
            have:ns=[]:=List.eq_nil_of_length_eq_zero (by simpa using h3.symm)
            subst this
            rfl
          | some a =>
            have hlc:=run_loadCells_list (P:=P) w a (ns.map (Value.int .u8)) (fun j v hj=>hcell a rfl j v hj)
            rw [run_bytesToString w a _ c ns (by rw [h3]; exact hlc),s3]
            rfl
        · have:=wY hx hnv
          subst this
          exact False.elim hrk
      · exact False.elim hk
    · exact False.elim h
  · exact ov h hx w
theorem qt (hM:ad G p E M w) {x:AV} {u:Value} (h:jk M x=true) (hx:VR E x u):∃ a n c,u=.slice (some a) n c:=by
  unfold jk at h
  split at h
  · split at h
    · rename_i fl sz r rs ho
      rcases cj hM ho with ⟨_,h2⟩ | ⟨b,o,h2,_⟩
      · cases h2
      · cases hx with
        | mfn hm=>rw [h2] at hm; cases hm
        | mfe a hm=>rw [h2] at hm; cases hm
        | mf cap hm _ _=>exact ⟨_,_,_,rfl⟩
    · cases h
  · cases hx with
    | mfxe a hm=>exact ⟨_,_,_,rfl⟩
    | mfx cap hm _ _=>exact ⟨_,_,_,rfl⟩
  · cases hx with
    | nn=>exact ⟨_,_,_,rfl⟩
  · cases hx with
    | ene=>exact ⟨_,_,_,rfl⟩
  · cases hx with
    | sl=>exact ⟨_,_,_,rfl⟩
  · cases hx with
    | msle off a hm=>simp at h
    | msl _ _ _ cap hm _ _ _=>exact ⟨_,_,_,rfl⟩
  · cases h
theorem rv (hM:ad G p E M w) {op:BinOp} {t:TypeId} {x y:AV} {u v:Value} {k:AV→Prop} (h:lm P op t x y M k) (hx:VR E x u) (hy:VR E y v) (X Y:Operand) :
    ∃ r z,k r∧VR E r z∧(do eqGuard op t X Y u v; binOp op t u v:Sem Value).run P w=.ok z w:=by
  unfold lm at h
  split at h
  · rename_i hn
    obtain ⟨a,n,c,rfl⟩:=qt hM hn hx
    cases hy
    split at h
    · rename_i e hu
      have he:(Op.equal t (.slice (some a) n c) (.slice none 0 0)).run P w=.ok false w:=by
        refine kQ (fun d=>?_)
        unfold Op.equalIn
        rw [Sem.run_bind,run_underlying hu]
        rfl
      refine ⟨_,_,h,.v _ _ rfl,?_⟩
      rw [d9 rfl]
      show (do pure (.bool (← Op.equal t (.slice (some a) n c) (.slice none 0 0))):Sem Value).run P w=_
      rw [Sem.run_bind,he]
      rfl
    · rename_i e hu
      have he:(Op.equal t (.slice (some a) n c) (.slice none 0 0)).run P w=.ok false w:=by
        refine kQ (fun d=>?_)
        unfold Op.equalIn
        rw [Sem.run_bind,run_underlying hu]
        rfl
      refine ⟨_,_,h,.v _ _ rfl,?_⟩
      rw [d9 rfl]
      show (do pure (.bool (!(← Op.equal t (.slice (some a) n c) (.slice none 0 0)))):Sem Value).run P w=_
      rw [Sem.run_bind,he]
      rfl
    · exact False.elim h
  · exact mN h hx hy w X Y
end
section
variable {G:Gh} {p:Nat→Option (List AV)} {E:Env} {M:St} {w:World} {P:Program}
theorem eb (hM:ad G p E M w) {o:Oper} {a:Act} {k:AV→Prop} (h:∃ r z,k r∧VR E r z∧(execOp a.eval o).run P w=.ok (.value z) w):jq P G p E M o a w (fun r M'=>k r∧M'=M):=by
  intro next Q hn
  obtain ⟨r,z,hk,hv,hrun⟩:=h
  unfold Oper.wp
  rw [hrun]
  exact hn r z E w M ⟨hk,rfl⟩ hv (LE.refl E) (.rfl' rfl) hM
theorem pm {o:Oper} {a:Act} {c:Call} {x:Operand} {fid:Nat} {us ws:Array Value} (ho:o.op=.call c) (hcal:c.callee=.value x) (hx:a.eval x=.func (.func fid) us ws) (hb:j2 P fid) (w:World) :
    (execOp a.eval o).run P w=.ok (.enter fid (us++c.args.map a.eval++ws)) w:=by
  obtain ⟨fn,cc,h1,h2,h3⟩:=hb
  have:=pi h1 h2 h3 (us++c.args.map a.eval++ws) w
  rw [Array.append_assoc] at this
  simp [execOp,ho,resolve,hcal,hx,Deferred.ofValue,invoke,this]
theorem yc {b:Nat} (h:FD E [] b):E.F b:=by
  rcases h with h | ⟨id,h,_⟩
  · exact h
  · cases h
theorem lA (hM:ad G p E M w) (hg:qh E) {o:Oper} {a:Act} {c:Call} {x:Operand} {fid:Nat} {first cap as:List AV} {k:AV→Prop} (ho:o.op=.call c) (hcal:c.callee=.value x)
    (hx:VR E (.fn fid first cap) (a.eval x)) (has:aO E as (c.args.toList.map a.eval)) (hd:dV M.o (first++as++cap) fun bs=>bW P fid bs k)
    (next:Act→World→Prop) (Q:Exit→Act→World→Prop)
    (hn:∀ r F' w' v,k r→VR ⟨F',fun _=>none,w'.heap⟩ r v→Below w.heap.size w w'→(∀ b,FD E ((first++as++cap).flatMap (bE M.o 6)) b→F' b)→(∀ b,F' b→b<w'.heap.size) →
      (∀ b,F' b→b<w.heap.size→FD E ((first++as++cap).flatMap (bE M.o 6)) b)→next (a.put o.dst v) w'):o.wp P a w next Q:=by
  obtain ⟨us,ws,hfv,h1,h2⟩:∃ us ws,a.eval x=.func (.func fid) us ws∧aO E first us.toList∧aO E cap ws.toList:=by
    generalize a.eval x=u at hx
    cases hx with
    | fn us ws h1 h2 h3 h4=>exact ⟨us,ws,rfl,⟨by simpa using h1,fun m c u hc hu=>h2 m c u hc (by simpa using hu)⟩,⟨by simpa using h3,fun m c u hc hu=>h4 m c u hc (by simpa using hu)⟩⟩
  obtain ⟨bs,⟨r,hr,hk⟩,hbs⟩:=ly hM ((h1.append has).append h2) hd
  have hb:=hr.1
  unfold Oper.wp
  rw [pm ho hcal hfv hb w,Oper.upon_enter]
  refine (hr.2 (FD E ((first++as++cap).flatMap (bE M.o 6))) w _ (vW hM) (hg.up (fun b h=>.inl h) hM.hp) (by simpa [Env.fd,hM.hp] using hbs (fun i hi=>hi))).mono ?_
  rintro e w' ⟨v,F',rfl,hv,hbl,hF1,hF2,hF3⟩
  exact hn r F' w' v hk hv hbl hF1 hF2 hF3
theorem rx (hM:ad G p E M w) (hg:qh E) {o:Oper} {a:Act} {c:Call} {x:Operand} {fid:Nat} {first cap as:List AV} {k:AV→Prop} (ho:o.op=.call c) (hcal:c.callee=.value x)
    (hx:VR E (.fn fid first cap) (a.eval x)) (has:aO E as (c.args.toList.map a.eval))
    (hd:dV M.o (first++as++cap) fun bs=>bW P fid bs fun r=>aB (mC 4 r||((first++as++cap).flatMap (bE M.o 6)).isEmpty) (k r)) :
    jq P G p E M o a w (fun r M'=>k r∧M'=M):=by
  intro next Q hnext
  refine lA hM hg ho hcal hx has hd next Q (fun r F' w' v hk hv hbl hF1 hF2 hF3=>?_)
  replace hk:=ab hk
  obtain ⟨hs,hk⟩:=hk
  simp only [Bool.or_eq_true,List.isEmpty_iff] at hs
  rcases hs with hs | hs
  · obtain ⟨hle,hS⟩:=hM.below (F':=E.F) hbl (fun _ h=>h) (fun b h=>Nat.lt_of_lt_of_le (hM.Flt b h) hbl.size) (fun b h _=>h)
    exact hnext r v _ w' M ⟨hk,rfl⟩ (j3 4 hs hv) hle (.rfl' rfl) hS
  · rw [hs] at hF1 hF3
    obtain ⟨hle,hS⟩:=hM.below (F':=F') hbl (fun b h=>hF1 b (.inl h)) hF2 (fun b h hb=>yc (hF3 b h hb))
    exact hnext r v _ w' M ⟨hk,rfl⟩ (VR.of_fz (E:=⟨F',E.mu,w'.heap⟩) hv) hle (.rfl' rfl) hS
theorem jr {o:List Ob} {k k':List AV→Prop} (hk:∀ bs,k bs→k' bs):∀ {as:List AV},dV o as k→dV o as k'
  | [],h=>hk _ h
  | a::as,h=>by
    unfold dV qb at h ⊢
    split at h
    · rename_i b hb
      rw [aQ] at h
      rw [aQ]
      exact jr (fun bs=>hk (b::bs)) h
    · exact False.elim h
theorem uR {C:Ctx} (hC:∀ f args K,C.pcall f args K→bW C.P f args K) (hM:ad G p E M w) (hg:qh E) {o:Oper} {vs:List AV} {a:Act} {k:AV→Prop} (h:iT C o vs M k) (hv:aO E vs (o.op.operands.toList.map a.eval)) :
    jq C.P G p E M o a w (fun r M'=>k r∧M'=M):=by
  unfold iT at h
  split at h
  · rename_i t X pa ho
    rw [ho] at hv
    obtain ⟨u,us,e,hc,hn⟩:=hv.uncons
    simp [Op.operands] at e
    obtain ⟨row,j,us',b,off,hk,rfl,hu,hcell⟩:=pe hM hc h
    obtain ⟨r,z,hk',hr,hrun⟩:=jn hk hu w hcell
    exact eb hM ⟨r,z,hk',hr,by simp [execOp,ho,e.1,hrun]⟩
  · rename_i src dst X x ho
    rw [ho] at hv
    obtain ⟨u,us,e,hc,hn⟩:=hv.uncons
    simp [Op.operands] at e
    obtain ⟨r,z,hk',hr,hrun⟩:=oz hM h hc
    exact eb hM ⟨r,z,hk',hr,by simp [execOp,ho,e.1,hrun]⟩
  · rename_i t X lo hi mx x rest ho
    rw [ho] at hv
    have jR:∀ {u:Value} {lo' hi' mx':Option Int},a.eval X=u→VR E x u→dY C.P t x lo' hi' mx' M k→qm lo' (lo.map a.eval)→qm hi' (hi.map a.eval)→qm mx' (mx.map a.eval)→jq C.P G p E M o a w (fun r M'=>k r∧M'=M):=by
      intro u lo' hi' mx' e hc h h1 h2 h3
      obtain ⟨r,z,hk',hr,hrun⟩:=rt (P:=C.P) hM h hc h1 h2 h3
      exact eb hM ⟨r,z,hk',hr,by simp [execOp,ho,e,hrun]⟩
    split at h
    · obtain ⟨u,us,e,hc,hn⟩:=hv.uncons
      simp [Op.operands] at e
      exact jR e.1 hc h trivial trivial trivial
    · obtain ⟨u,us,e,hc,hn⟩:=hv.uncons
      obtain ⟨u1,us1,rfl,hc1,_⟩:=hn.uncons
      simp [Op.operands] at e
      replace h:=aI h hc1
      obtain ⟨kd,n,e1,h⟩:=h
      exact jR e.1 hc h ⟨kd,by rw [e.2.1]; exact e1⟩ trivial trivial
    · obtain ⟨u,us,e,hc,hn⟩:=hv.uncons
      obtain ⟨u1,us1,rfl,hc1,_⟩:=hn.uncons
      simp [Op.operands] at e
      replace h:=aI h hc1
      obtain ⟨kd,n,e1,h⟩:=h
      exact jR e.1 hc h trivial ⟨kd,by rw [e.2.1]; exact e1⟩ trivial
    · obtain ⟨u,us,e,hc,hn⟩:=hv.uncons
      obtain ⟨u1,us1,rfl,hc1,hn1⟩:=hn.uncons
      obtain ⟨u2,us2,rfl,hc2,_⟩:=hn1.uncons
      simp [Op.operands] at e
      replace h:=aI h hc1
      obtain ⟨kd,n,e1,h⟩:=h
      replace h:=aI h hc2
      obtain ⟨kd2,n2,e2,h⟩:=h
      exact jR e.1 hc h ⟨kd,by rw [e.2.1]; exact e1⟩ ⟨kd2,by rw [e.2.2.1]; exact e2⟩ trivial
    · obtain ⟨u,us,e,hc,hn⟩:=hv.uncons
      obtain ⟨u1,us1,rfl,hc1,hn1⟩:=hn.uncons
      obtain ⟨u2,us2,rfl,hc2,_⟩:=hn1.uncons
      simp [Op.operands] at e
      replace h:=aI h hc1
      obtain ⟨kd,n,e1,h⟩:=h
      replace h:=aI h hc2
      obtain ⟨kd2,n2,e2,h⟩:=h
      exact jR e.1 hc h trivial ⟨kd,by rw [e.2.1]; exact e1⟩ ⟨kd2,by rw [e.2.2.1]; exact e2⟩
    · obtain ⟨u,us,e,hc,hn⟩:=hv.uncons
      obtain ⟨u1,us1,rfl,hc1,hn1⟩:=hn.uncons
      obtain ⟨u2,us2,rfl,hc2,hn2⟩:=hn1.uncons
      obtain ⟨u3,us3,rfl,hc3,_⟩:=hn2.uncons
      simp [Op.operands] at e
      replace h:=aI h hc1
      obtain ⟨kd,n,e1,h⟩:=h
      replace h:=aI h hc2
      obtain ⟨kd2,n2,e2,h⟩:=h
      replace h:=aI h hc3
      obtain ⟨kd3,n3,e3,h⟩:=h
      exact jR e.1 hc h ⟨kd,by rw [e.2.1]; exact e1⟩ ⟨kd2,by rw [e.2.2.1]; exact e2⟩ ⟨kd3,by rw [e.2.2.2.1]; exact e3⟩
    · exact False.elim h
  · rename_i op t X Y yt x y ho
    rw [ho] at hv
    obtain ⟨u,us,e,hc,hn⟩:=hv.uncons
    obtain ⟨u1,us1,rfl,hc1,hn1⟩:=hn.uncons
    simp [Op.operands] at e
    obtain ⟨r,z,hk,hr,hrun⟩:=rv hM h hc hc1 X Y
    refine eb hM ⟨r,z,hk,hr,?_⟩
    have:(execOp a.eval o)=(do pure (.value (← (do eqGuard op t X Y u u1; binOp op t u u1:Sem Value)))):=by
      unfold execOp
      rw [ho,← e.1,← e.2.1]
    rw [this,Sem.run_bind,hrun]
    rfl
  · rename_i t X Y x i ho
    rw [ho] at hv
    obtain ⟨u,us,e,hc,hn⟩:=hv.uncons
    obtain ⟨u1,us1,rfl,hc1,_⟩:=hn.uncons
    simp [Op.operands] at e
    obtain ⟨r,z,hk',hr,hrun⟩:=l5 (P:=C.P) hM h hc hc1
    exact eb hM ⟨r,z,hk',hr,by simp [execOp,ho,e.1,e.2.1,hrun]⟩
  · rename_i t X Y ok m key ho
    rw [ho] at hv
    obtain ⟨u,us,e,hc,hn⟩:=hv.uncons
    obtain ⟨u1,us1,rfl,hc1,_⟩:=hn.uncons
    simp [Op.operands] at e
    obtain ⟨r,z,hk',hr,hrun⟩:=qo (P:=C.P) hM h hc hc1
    exact eb hM ⟨r,z,hk',hr,by simp [execOp,ho,e.1,e.2.1,hrun]⟩
  · rename_i vs _ _ c ho
    rw [ho] at hv
    split at h
    · rename_i b hcal
      split at h
      · rename_i x
        split at h
        · rename_i t ts ht
          obtain ⟨u,us,e,hc,hn⟩:=hv.uncons
          have hnil:=hn.unnil
          subst hnil
          have e':c.args.map a.eval=#[u]:=by
            apply Array.ext'
            simpa [Op.operands,Call.operands,hcal] using e
          have ht':c.argTypes[0]?=some t:=by
            rw [← Array.getElem?_toList,ht]; rfl
          obtain ⟨r,z,hk',hr,hrun⟩:=uO (P:=C.P) hM h hc ht' o.type
          exact eb hM ⟨r,z,hk',hr,by simp [execOp,ho,resolve,hcal,e',invoke,builtin,hrun]⟩
        · exact False.elim h
      · exact False.elim h
    · rename_i x hcal
      split at h
      · rename_i fid first cap as
        replace h:=ab h; obtain ⟨_,h⟩:=h
        obtain ⟨u,us,e,hc,hn⟩:=hv.uncons
        have e':u=a.eval x∧us=c.args.toList.map a.eval:=by
          simp [Op.operands,Call.operands,hcal] at e
          exact ⟨e.1.symm,e.2.symm⟩
        obtain ⟨rfl,rfl⟩:=e'
        exact rx hM hg ho hcal hc hn (jr (fun bs hb=>hC _ _ _ hb) h)
      · exact False.elim h
    · exact False.elim h
  · exact False.elim h
end
theorem b9.mono2 {E E':Env} {x:Option Ob} {mv:Option MV} (h:b9 E x mv) (hf:LE E.fz E'.fz) (hb:LE E.ob E'.ob) (hh:∀ b o s n,mv=some (.blk b o s n)→E'.h[b]?=E.h[b]?):b9 E' x mv:=by
  revert h
  cases x with
  | none=>cases mv <;> exact fun h=>h
  | some ob =>
    cases ob with
    | dead=>cases mv <;> exact fun h=>h
    | arr fl sz' rows =>
      cases mv with
      | none=>exact fun h=>h
      | some mv =>
        cases mv with
        | virt=>exact fun h=>h
        | blk b o s n =>
          rintro ⟨h1,h2,h3,us,ty,h4,h5,h6⟩
          refine ⟨h1,h2,h3,us,ty,(hh _ _ _ _ rfl).trans h4,h5,fun m c hc=>?_⟩
          obtain ⟨u,hu,hv⟩:=h6 m c hc
          refine ⟨u,hu,?_⟩
          cases fl with
          | true=>exact hv.mono hf
          | false=>exact hv.mono hb
    | lp pl ps t asg body st =>
      cases mv with
      | none=>exact fun h=>h
      | some mv =>
        cases mv with
        | virt=>exact fun h=>h
        | blk b o s n =>
          rintro ⟨r,h1,h2⟩
          exact ⟨r,(hh _ _ _ _ rfl).trans h1,h2.mono hb⟩
    | own _ _ _ _ =>
      cases mv with
      | none=>exact fun h=>h.elim
      | some mv=>cases mv <;> exact fun h=>h
    | mapo fl es =>
      cases mv with
      | none=>exact fun h=>h
      | some mv =>
        cases mv with
        | virt=>exact fun h=>h
        | blk b o s n =>
          rintro ⟨ms,clock,h1,h2,h3⟩
          refine ⟨ms,clock,(hh _ _ _ _ rfl).trans h1,h2,fun i e m h4 h5=>?_⟩
          obtain ⟨h6,h7⟩:=h3 i e m h4 h5
          refine ⟨h6,?_⟩
          cases fl with
          | true=>exact h7.mono hf
          | false=>exact h7.mono hb
theorem b9.mono {E E':Env} {x:Option Ob} {mv:Option MV} (h:b9 E x mv) (hle:LE E E') (hh:∀ b o s n,mv=some (.blk b o s n)→E'.h[b]?=E.h[b]?):b9 E' x mv:=h.mono2 hle.fz hle.ob hh
def ai (mu:Key→Option MV) (key:Key) (mv:MV):Key→Option MV:=fun k=>if k=key then some mv else mu k
section
variable {G:Gh} {p:Nat→Option (List AV)} {E:Env} {M:St} {w:World} {P:Program}
theorem dQ {key:Key} {mv:MV} (hkey:E.mu key=none):LE E ⟨E.F,ai E.mu key mv,E.h⟩ :=
  ⟨fun _ h=>h,fun k x _ h=>by
    show (if k=key then some mv else E.mu k)=some x
    rw [if_neg (fun e=>by subst e; rw [hkey] at h; cases h)]
    exact h,fun _ _=>rfl,fun _ _ _ _ _ _ _=>rfl⟩
theorem ad.addkey' {p':Nat→Option (List AV)} (hM:ad G p E M w) {key:Key} {mv:MV} (hp1:∀ d,key≠.L d→p' d=p d) (hp0:∀ d,key=.L d→p' d=none) (hkey:E.mu key=none) (hmv:∀ b o s n,mv=.blk b o s n→¬ E.F b∧b<w.heap.size∧(G.M b∨G.w0.heap.size≤b)∧∀ k o' s' n',E.mu k≠some (.blk b o' s' n'))
    {M':St} (hl:∀ d,key≠.L d→ap M'.l d=ap M.l d) (ho:∀ id,key≠.O id→M'.o[id]?=M.o[id]?) (hbb:M'.b=M.b) (hlen:M.b≤M'.o.length) (hkb:∀ id,key=.O id→M.b≤id)
    (hL:∀ d,key=.L d→c_ p' ⟨E.F,ai E.mu key mv,E.h⟩ (ap M'.l d) d) (hO:∀ id,key=.O id→b9 ⟨E.F,ai E.mu key mv,E.h⟩ M'.o[id]? (some mv))
    (hW:∀ id,(key=.O id∨∃ i,key=.S id i)→bi ⟨E.F,ai E.mu key mv,E.h⟩ id M'.o[id]?) :
    ad G p' ⟨E.F,ai E.mu key mv,E.h⟩ M' w:=by
  have hle:LE E ⟨E.F,ai E.mu key mv,E.h⟩:=dQ hkey
  have hne:∀ {k:Key} {x:MV},ai E.mu key mv k=some x→(k=key∧x=mv)∨(k≠key∧E.mu k=some x):=by
    intro k x h
    unfold ai at h
    by_cases hk:k=key
    · rw [if_pos hk] at h; cases h; exact .inl ⟨hk,rfl⟩
    · rw [if_neg hk] at h; exact .inr ⟨hk,h⟩
  refine ⟨hM.hp,hM.os,hM.tape,hM.output,hM.size,hM.keep,hM.F0,hM.Flt,hM.Fnew,fun k b o s n h=>?_,fun k k' b o s n o' s' n' h h'=>?_,fun d=>?_,fun id=>?_,fun id hid=>?_,by rw [hbb]; exact hlen,hM.szs,fun e row h=>?_,fun id=>?_⟩
  · rcases hne h with ⟨_,e⟩ | ⟨_,h⟩
    · obtain ⟨h1,h2,h3,_⟩:=hmv _ _ _ _ e.symm
      exact ⟨h1,h2,h3⟩
    · exact hM.own k b o s n h
  · rcases hne h with ⟨e1,e2⟩ | ⟨_,h⟩
    · rcases hne h' with ⟨e3,e4⟩ | ⟨_,h'⟩
      · rw [e1,e3]
      · exact absurd h' ((hmv _ _ _ _ e2.symm).2.2.2 _ _ _ _)
    · rcases hne h' with ⟨e3,e4⟩ | ⟨_,h'⟩
      · exact absurd h ((hmv _ _ _ _ e4.symm).2.2.2 _ _ _ _)
      · exact hM.inj _ _ _ _ _ _ _ _ _ h h'
  · by_cases hd:key=.L d
    · exact hL d hd
    · rw [hl d hd]
      have hmu:ai E.mu key mv (.L d)=E.mu (.L d):=by unfold ai; rw [if_neg (fun e=>hd e.symm)]
      have:=hM.loc d
      revert this
      cases ap M.l d with
      | none=>exact fun h=>hmu.trans h
      | some row =>
        rintro (⟨b',h1,h2⟩ | ⟨h1,h2⟩)
        · exact .inl ⟨b',hmu.trans h1,h2.mono hle⟩
        · exact .inr ⟨hmu.trans h1,(hp1 d hd).trans h2.1,h2.2⟩
  · by_cases hd:key=.O id
    · have:=hO id hd
      show b9 _ _ (ai E.mu key mv (.O id))
      unfold ai
      rw [if_pos hd.symm]
      exact this
    · rw [ho id hd]
      show b9 _ _ (ai E.mu key mv (.O id))
      have hmu:ai E.mu key mv (.O id)=E.mu (.O id):=by unfold ai; rw [if_neg (fun e=>hd e.symm)]
      rw [hmu]
      exact (hM.obj id).mono hle (fun _ _ _ _ _=>rfl)
  · rw [hbb] at hid
    have hd:key≠.O id:=fun e=>by have:=hkb id e; omega
    rw [ho id hd]
    have hmu:ai E.mu key mv (.O id)=E.mu (.O id):=by unfold ai; rw [if_neg (fun e=>hd e.symm)]
    show _∨ai E.mu key mv (.O id)=_
    rw [hmu]
    exact hM.old id hid
  · have hd:key≠.L e:=fun he=>by rw [hp0 e he] at h; cases h
    obtain ⟨h1,h2⟩:=hM.pk e row ((hp1 e hd).symm.trans h)
    refine ⟨?_,(hl e hd).trans h2⟩
    show ai E.mu key mv (.L e)=none
    unfold ai
    rw [if_neg (fun h=>hd h.symm)]
    exact h1
  · by_cases hd:key=.O id∨∃ i,key=.S id i
    · exact hW id hd
    · rw [ho id (fun e=>hd (.inl e))]
      have ho:ai E.mu key mv (.O id)=E.mu (.O id):=by unfold ai; rw [if_neg (fun e=>hd (.inl e.symm))]
      refine (hM.ow id).mono ho (fun i=>?_) hle.fz hle.ob (fun _ _ _ _ _ _ _=>rfl)
      show ai E.mu key mv (.S id i)=_
      unfold ai
      rw [if_neg (fun e=>hd (.inr ⟨i,e.symm⟩))]
theorem ad.addkey (hM:ad G p E M w) {key:Key} {mv:MV} (hp0:∀ d,key=.L d→p d=none) (hkey:E.mu key=none) (hmv:∀ b o s n,mv=.blk b o s n→¬ E.F b∧b<w.heap.size∧(G.M b∨G.w0.heap.size≤b)∧∀ k o' s' n',E.mu k≠some (.blk b o' s' n'))
    {M':St} (hl:∀ d,key≠.L d→ap M'.l d=ap M.l d) (ho:∀ id,key≠.O id→M'.o[id]?=M.o[id]?) (hbb:M'.b=M.b) (hlen:M.b≤M'.o.length) (hkb:∀ id,key=.O id→M.b≤id)
    (hL:∀ d,key=.L d→c_ p ⟨E.F,ai E.mu key mv,E.h⟩ (ap M'.l d) d) (hO:∀ id,key=.O id→b9 ⟨E.F,ai E.mu key mv,E.h⟩ M'.o[id]? (some mv))
    (hW:∀ id,(key=.O id∨∃ i,key=.S id i)→bi ⟨E.F,ai E.mu key mv,E.h⟩ id M'.o[id]?) :
    ad G p ⟨E.F,ai E.mu key mv,E.h⟩ M' w:=hM.addkey' (fun _ _=>rfl) hp0 hkey hmv hl ho hbb hlen hkb hL hO hW
theorem ad.ow_new (hM:ad G p E M w) {id:Nat} {mv:MV} {E':Env} (hmu:E'.mu=ai E.mu (.O id) mv) (h0:du M.o[id]?=true) {x:Option Ob} (hx:du x=true):bi E' id x:=by
  rw [bi.not hx]
  intro i
  rw [hmu]
  unfold ai
  rw [if_neg (fun e=>by cases e)]
  exact (bi.not h0).1 (hM.ow id) i
theorem ad.ow_push (hM:ad G p E M w) {mv:MV} {E':Env} (hmu:E'.mu=ai E.mu (.O M.o.length) mv) {x:Ob} (hx:du (some x)=true):∀ j,(Key.O M.o.length=.O j∨∃ i,Key.O M.o.length=.S j i)→bi E' j (M.o++[x])[j]?:=by
  intro j h
  rcases h with e | ⟨i,e⟩ <;> cases e
  rw [List.getElem?_append_right (Nat.le_refl _),Nat.sub_self]
  exact hM.ow_new hmu (by rw [List.getElem?_eq_none (Nat.le_refl _)]; rfl) hx
theorem fe (w:World) (ob:Obj):Below w.heap.size w { w with heap:=w.heap.push ob } :=
  ⟨rfl,rfl,rfl,by simp,fun k hk=>by show (w.heap.push ob)[k]?=_; rw [Array.getElem?_push,if_neg (by omega)]⟩
theorem bu (w:World) (ob:Obj):(w.heap.push ob)[w.heap.size]?=some ob:=by simp
theorem ad.newkey' {p':Nat→Option (List AV)} (hM:ad G p E M w) {ob:Obj} {key:Key} {sz n:Nat} (hp1:∀ d,key≠.L d→p' d=p d) (hp0:∀ d,key=.L d→p' d=none) (hkey:E.mu key=none)
    {M':St} (hl:∀ d,key≠.L d→ap M'.l d=ap M.l d) (ho:∀ id,key≠.O id→M'.o[id]?=M.o[id]?) (hbb:M'.b=M.b) (hlen:M.b≤M'.o.length) (hkb:∀ id,key=.O id→M.b≤id)
    (hL:∀ d,key=.L d→LE E ⟨E.F,ai E.mu key (.blk w.heap.size 0 sz n),w.heap.push ob⟩→c_ p' ⟨E.F,ai E.mu key (.blk w.heap.size 0 sz n),w.heap.push ob⟩ (ap M'.l d) d)
    (hO:∀ id,key=.O id→LE E ⟨E.F,ai E.mu key (.blk w.heap.size 0 sz n),w.heap.push ob⟩→b9 ⟨E.F,ai E.mu key (.blk w.heap.size 0 sz n),w.heap.push ob⟩ M'.o[id]? (some (.blk w.heap.size 0 sz n)))
    (hW:∀ id,(key=.O id∨∃ i,key=.S id i)→bi ⟨E.F,ai E.mu key (.blk w.heap.size 0 sz n),w.heap.push ob⟩ id M'.o[id]?) :
    LE E ⟨E.F,ai E.mu key (.blk w.heap.size 0 sz n),w.heap.push ob⟩∧ad G p' ⟨E.F,ai E.mu key (.blk w.heap.size 0 sz n),w.heap.push ob⟩ M' { w with heap:=w.heap.push ob }:=by
  obtain ⟨hle1,hS1⟩:=hM.below (F':=E.F) (fe w ob) (fun _ h=>h) (fun b h=>by have:=hM.Flt b h; simp; omega) (fun b h _=>h)
  have hle:LE E ⟨E.F,ai E.mu key (.blk w.heap.size 0 sz n),w.heap.push ob⟩:=hle1.trans (dQ (E:=⟨E.F,E.mu,w.heap.push ob⟩) hkey)
  refine ⟨hle,hS1.addkey' (key:=key) (mv:=.blk w.heap.size 0 sz n) hp1 hp0 hkey (fun b o s n' e=>?_) hl ho hbb hlen hkb (fun d e=>hL d e hle) (fun id e=>hO id e hle) hW⟩
  cases e
  refine ⟨fun h=>?_,by simp,.inr hM.size,fun k o' s' n'' h=>?_⟩
  · have:=hM.Flt _ h
    omega
  · have:=(hM.own _ _ _ _ _ h).2.1
    omega
theorem ad.newkey (hM:ad G p E M w) {ob:Obj} {key:Key} {sz n:Nat} (hp0:∀ d,key=.L d→p d=none) (hkey:E.mu key=none)
    {M':St} (hl:∀ d,key≠.L d→ap M'.l d=ap M.l d) (ho:∀ id,key≠.O id→M'.o[id]?=M.o[id]?) (hbb:M'.b=M.b) (hlen:M.b≤M'.o.length) (hkb:∀ id,key=.O id→M.b≤id)
    (hL:∀ d,key=.L d→LE E ⟨E.F,ai E.mu key (.blk w.heap.size 0 sz n),w.heap.push ob⟩→c_ p ⟨E.F,ai E.mu key (.blk w.heap.size 0 sz n),w.heap.push ob⟩ (ap M'.l d) d)
    (hO:∀ id,key=.O id→LE E ⟨E.F,ai E.mu key (.blk w.heap.size 0 sz n),w.heap.push ob⟩→b9 ⟨E.F,ai E.mu key (.blk w.heap.size 0 sz n),w.heap.push ob⟩ M'.o[id]? (some (.blk w.heap.size 0 sz n)))
    (hW:∀ id,(key=.O id∨∃ i,key=.S id i)→bi ⟨E.F,ai E.mu key (.blk w.heap.size 0 sz n),w.heap.push ob⟩ id M'.o[id]?) :
    LE E ⟨E.F,ai E.mu key (.blk w.heap.size 0 sz n),w.heap.push ob⟩∧ad G p ⟨E.F,ai E.mu key (.blk w.heap.size 0 sz n),w.heap.push ob⟩ M' { w with heap:=w.heap.push ob } :=
  hM.newkey' (fun _ _=>rfl) hp0 hkey hl ho hbb hlen hkb hL hO hW
end
structure KE (k:Key) (E E':Env):Prop where
  F:∀ b,E.F b→E'.F b
  mu:∀ x y,x.isS=false→x≠k→E.mu x=some y→E'.mu x=some y
  hF:∀ b,E.F b→E'.h[b]?=E.h[b]?
  sz:∀ x b o s n,x.isS=false→x≠k→E.mu x=some (.blk b o s n)→au E'.h b=au E.h b
theorem KE.fz {k:Key} {E E':Env} (h:KE k E E'):LE E.fz E'.fz:=⟨h.F,fun _ _ _ hx=>(by cases hx),h.hF,fun _ _ _ _ _ _ hx=>(by cases hx)⟩
theorem b3:∀ (n:Nat) {k:Key} {E E':Env} {a:AV} {u:Value},KE k E E'→VR E a u→VR E' (a5 n k a) u
  | 0,_,_,_,_,_,_,_=>.bad _ _
  | n + 1,k,E,E',a,u,hk,hv=>by
    have km:∀ {cs:List AV} {us:Array Value},(∀ (m:Nat) (c:AV) (u:Value),cs[m]?=some c→us[m]?=some u→VR E c u) →
        ∀ (m:Nat) (c:AV) (u:Value),(cs.map (a5 n k))[m]?=some c→us[m]?=some u→VR E' c u:=by
      intro cs us hc m c u h1 h2
      rw [List.getElem?_map,Option.map_eq_some_iff] at h1
      obtain ⟨c',h3,rfl⟩:=h1
      exact b3 n hk (hc m c' u h3 h2)
    unfold a5
    cases hv with
    | bad=>exact .bad _ _
    | v _ x hx=>exact .v _ _ hx
    | nilp=>exact .nilp _
    | ptr i j hs0 hm =>
      rename_i k' b o sz n'
      show VR E' (if k'=k then AV.bad else .ptr k' i j) _
      by_cases hkk:k'=k
      · rw [if_pos hkk]; exact .bad _ _
      · rw [if_neg hkk]; exact .ptr i j hs0 (hk.mu _ _ hs0 hkk hm)
    | bsl off len cap hs0 hm h1 =>
      rename_i k' b o sz n'
      show VR E' (if k'=k then AV.bad else .bsl k' off len) _
      by_cases hkk:k'=k
      · rw [if_pos hkk]; exact .bad _ _
      · rw [if_neg hkk]; exact .bsl off len cap hs0 (hk.mu _ _ hs0 hkk hm) h1
    | fptr j us h1 h2 h3 h4=>exact .fptr j us h1 (fun m c u hc hu=>(h2 m c u hc hu).mono hk.fz) (hk.F _ h3) (fun m u hu=>(f_ (hk.hF _ h3) _).trans (h4 m u hu))
    | nilsl=>exact .nilsl _
    | esln=>exact .esln _
    | esl a=>exact .esl _ _
    | sln=>exact .sln _
    | sle a cap=>exact .sle _ _ _
    | sl us h1 h2 h3 h4 h5 h6 h7=>exact .sl us h1 h2 h3 (fun m c u hc hu=>(h4 m c u hc hu).mono hk.fz) (hk.F _ h5) (fun m u hu=>(f_ (hk.hF _ h5) _).trans (h6 m u hu)) h7
    | yld hm =>
      rename_i id l o s m
      show VR E' (if Key.O id=k then AV.bad else .yld id) _
      by_cases hkk:Key.O id=k
      · rw [if_pos hkk]; exact .bad _ _
      · rw [if_neg hkk]; exact .yld (hk.mu _ _ rfl hkk hm)
    | mfn hm =>
      rename_i id
      show VR E' (if Key.O id=k then AV.bad else .mf id) _
      by_cases hkk:Key.O id=k
      · rw [if_pos hkk]; exact .bad _ _
      · rw [if_neg hkk]; exact .mfn (hk.mu _ _ rfl hkk hm)
    | mfe a hm =>
      rename_i id
      show VR E' (if Key.O id=k then AV.bad else .mf id) _
      by_cases hkk:Key.O id=k
      · rw [if_pos hkk]; exact .bad _ _
      · rw [if_neg hkk]; exact .mfe a (hk.mu _ _ rfl hkk hm)
    | mfxe a hm =>
      rename_i id
      show VR E' (if Key.O id=k then AV.bad else .mfx id) _
      by_cases hkk:Key.O id=k
      · rw [if_pos hkk]; exact .bad _ _
      · rw [if_neg hkk]; exact .mfxe a (hk.mu _ _ rfl hkk hm)
    | mfx cap hm h1 h2 =>
      rename_i id b o sz n'
      show VR E' (if Key.O id=k then AV.bad else .mfx id) _
      by_cases hkk:Key.O id=k
      · rw [if_pos hkk]; exact .bad _ _
      · rw [if_neg hkk]; exact .mfx cap (hk.mu _ _ rfl hkk hm) h1 (by rw [hk.sz _ _ _ _ _ rfl hkk hm]; exact h2)
    | nn=>exact .nn _ _ _ _
    | ene=>exact .ene _ _
    | mf cap hm h1 h2 =>
      rename_i id b o sz n'
      show VR E' (if Key.O id=k then AV.bad else .mf id) _
      by_cases hkk:Key.O id=k
      · rw [if_pos hkk]; exact .bad _ _
      · rw [if_neg hkk]; exact .mf cap (hk.mu _ _ rfl hkk hm) h1 (by rw [hk.sz _ _ _ _ _ rfl hkk hm]; exact h2)
    | msle off a hm =>
      rename_i id x
      show VR E' (if Key.O id=k then AV.bad else .msl id off 0 0) _
      by_cases hkk:Key.O id=k
      · rw [if_pos hkk]; exact .bad _ _
      · rw [if_neg hkk]; exact .msle off a (hk.mu _ _ rfl hkk hm)
    | msl off len ext cap hm h1 h2 h3 =>
      rename_i id b o sz n'
      show VR E' (if Key.O id=k then AV.bad else .msl id off len ext) _
      by_cases hkk:Key.O id=k
      · rw [if_pos hkk]; exact .bad _ _
      · rw [if_neg hkk]; exact .msl off len ext cap (hk.mu _ _ rfl hkk hm) h1 h2 (by rw [hk.sz _ _ _ _ _ rfl hkk hm]; exact h3)
    | nilmap=>exact .nilmap _
    | mp hm =>
      rename_i id b o sz n'
      show VR E' (if Key.O id=k then AV.bad else .mp id) _
      by_cases hkk:Key.O id=k
      · rw [if_pos hkk]; exact .bad _ _
      · rw [if_neg hkk]; exact .mp (hk.mu _ _ rfl hkk hm)
    | nilfn=>exact .nilfn _
    | fn us ws h1 h2 h3 h4=>exact .fn us ws (by simpa using h1) (km h2) (by simpa using h3) (km h4)
    | agg us h1 h2=>exact .agg us (by simpa using h1) (km h2)
    | tup us h1 h2=>exact .tup us (by simpa using h1) (km h2)
theorem cx {k:Key}:∀ {xs:List AV} {K:List AV→Prop},eZ k xs K↔K (xs.map (a5 4 k))
  | [],_=>Iff.rfl
  | x::xs,K=>by
    show dX _ _↔_
    rw [aQ]
    exact cx (xs:=xs)
def dl (k:Key) (e:Nat×List AV):Nat×List AV:=(e.1,e.2.map (a5 4 k))
theorem dA {k:Key}:∀ {xs:List (Nat×List AV)} {K:List (Nat×List AV)→Prop},gk k xs K↔K (xs.map (dl k))
  | [],_=>Iff.rfl
  | (d,c)::xs,K=>by
    show eZ k c _↔_
    rw [cx]
    exact dA (xs:=xs)
theorem br {k:Key}:∀ {xs:List Ob} {K:List Ob→Prop},cU k xs K↔K (xs.map (bw k))
  | [],_=>Iff.rfl
  | .arr true _ _::xs,_=>br (xs:=xs)
  | .arr false _ _::xs,_=>br (xs:=xs)
  | .mapo true _::xs,_=>br (xs:=xs)
  | .mapo false _::xs,_=>br (xs:=xs)
  | .own _ _ _ none::xs,_=>br (xs:=xs)
  | .own _ _ _ (some _)::xs,_=>br (xs:=xs)
  | .lp _ _ _ _ _ _::xs,_=>br (xs:=xs)
  | .dead::xs,_=>br (xs:=xs)
theorem cn {k:Key}:∀ (l:List (Nat×List AV)) (d:Nat),ap (l.map (dl k)) d=(ap l d).map (List.map (a5 4 k))
  | [],_=>rfl
  | (e,c)::xs,d=>by
    show (if e=d then some (c.map (a5 4 k)) else ap (xs.map (dl k)) d)=Option.map _ (if e=d then some c else ap xs d)
    by_cases h:e=d
    · rw [if_pos h,if_pos h]; rfl
    · rw [if_neg h,if_neg h]; exact cn xs d
theorem ff:∀ (l:List (Nat×List AV)) (d e:Nat),ap (iV l d) e=if d=e then none else ap l e
  | [],d,e=>by show none=_; split <;> rfl
  | (x,c)::xs,d,e=>by
    show ap (if x=d then iV xs d else (x,c)::iV xs d) e=if d=e then none else (if x=e then some c else ap xs e)
    by_cases h:x=d
    · rw [if_pos h,ff xs d e]
      subst h
      by_cases h2:x=e
      · rw [if_pos h2,if_pos h2]
      · rw [if_neg h2,if_neg h2,if_neg h2]
    · rw [if_neg h]
      show (if x=e then some c else ap (iV xs d) e)=_
      rw [ff xs d e]
      by_cases h2:d=e
      · rw [if_pos h2,if_pos h2,if_neg (fun hx=>h (hx.trans h2.symm))]
      · rw [if_neg h2,if_neg h2]
theorem aX.kill {E E':Env} {h:Array Obj} {rows:List (List AV)} {b o sz:Nat} {k:Key} (ha:aX E h rows b o sz) (hk:KE k E E') {h':Array Obj} (hh:h'[b]?=h[b]?):aX E' h' (rows.map (List.map (a5 4 k))) b o sz:=by
  obtain ⟨us,ty,hb,hl,hc⟩:=ha.get
  refine aX.of_rows ha.1 (fun r hr=>?_) (hh.trans hb) (by simpa using hl) (fun i row r c h1 h2=>?_)
  · obtain ⟨r',hr',rfl⟩:=List.mem_map.1 hr
    simpa using ha.2.1 r' hr'
  · rw [List.getElem?_map,Option.map_eq_some_iff] at h1
    obtain ⟨row',h3,rfl⟩:=h1
    rw [List.getElem?_map,Option.map_eq_some_iff] at h2
    obtain ⟨c',h4,rfl⟩:=h2
    obtain ⟨u,hu,hv⟩:=hc i row' r c' h3 h4
    exact ⟨u,hu,b3 4 hk hv⟩
def ao (mu:Key→Option MV) (k:Key):Key→Option MV:=fun x=>if x=k then none else match x,k with | .S a _,.O b=>if a=b then none else mu x | _,_=>mu x
theorem gx {mu:Key→Option MV} {k:Key} {d:Nat} (h:Key.L d≠k):ao mu k (.L d)=mu (.L d):=by unfold ao; rw [if_neg h]
theorem eo {mu:Key→Option MV} {k:Key} {i:Nat} (h:Key.O i≠k):ao mu k (.O i)=mu (.O i):=by unfold ao; rw [if_neg h]
theorem qu {mu:Key→Option MV} {k:Key} {a i:Nat} (h:Key.S a i≠k) (h2:Key.O a≠k):ao mu k (.S a i)=mu (.S a i):=by
  unfold ao
  rw [if_neg h]
  cases k with
  | L d=>rfl
  | S c j=>rfl
  | O b =>
    show (if a=b then none else mu (.S a i))=_
    rw [if_neg (fun e=>h2 (by rw [e]))]
theorem v0 {mu:Key→Option MV} {a i:Nat}:ao mu (.O a) (.S a i)=none:=by
  unfold ao
  rw [if_neg (fun e=>by cases e)]
  show (if a=a then none else mu (.S a i))=none
  rw [if_pos rfl]
theorem dj {E:Env} {k:Key}:KE k E ⟨E.F,ao E.mu k,E.h⟩ :=
  ⟨fun _ h=>h,fun x y hs hx h=>(by
    cases x with
    | S _ _=>cases hs
    | L d=>exact (gx hx).trans h
    | O i=>exact (eo hx).trans h),fun _ _=>rfl,fun _ _ _ _ _ _ _ _=>rfl⟩
theorem aR {mu:Key→Option MV} {k x:Key} {y:MV} (h:ao mu k x=some y):x≠k∧mu x=some y:=by
  unfold ao at h
  by_cases hx:x=k
  · rw [if_pos hx] at h; cases h
  · rw [if_neg hx] at h
    refine ⟨hx,?_⟩
    split at h
    · split at h
      · cases h
      · exact h
    · exact h
def pn:Nat→Option (List AV):=fun _=>none
theorem c_.pend_kill {pd:Nat→Option (List AV)} {E E':Env} {row:List AV} {e:Nat} {k:Key} (hmu:E'.mu (.L e)=E.mu (.L e)) (h1:E.mu (.L e)=none) (h2:pd e=some row∧∀ k,row.map (a5 4 k)=row):c_ pd E' (some (row.map (a5 4 k))) e:=by
  rw [h2.2]
  exact .inr ⟨hmu.trans h1,h2⟩
section
variable {G:Gh} {pd:Nat→Option (List AV)} {E:Env} {S:St} {w:World} {P:Program}
theorem ad.pend_inv (hM:ad G pd E S w) {d:Nat} {row:List AV} (h:pd d=some row) (k:Key):row.map (a5 4 k)=row:=by
  obtain ⟨h1,h2⟩:=hM.pk d row h
  have:=hM.loc d
  rw [h2] at this
  rcases this with ⟨b,h3,_⟩ | ⟨_,_,h3⟩
  · rw [h1] at h3; cases h3
  · exact h3 k
theorem ad.congr {p:Nat→Option (List AV)} {M M':St} (h:ad G p E M w) (h1:M'.l=M.l) (h2:M'.o=M.o) (h3:M'.b=M.b):ad G p E M' w :=
  ⟨h.hp,h.os,h.tape,h.output,h.size,h.keep,h.F0,h.Flt,h.Fnew,h.own,h.inj,by rw [h1]; exact h.loc,by rw [h2]; exact h.obj,by rw [h3,h2]; exact h.old,by rw [h3,h2]; exact h.bl,h.szs,by rw [h1]; exact h.pk,by rw [h2]; exact h.ow⟩
theorem TR.kill {k:Key} {E':Env} {a:Act} {t:List AV} (h:TR G E t a) (hk:KE k E E'):TR G E' (t.map (a5 4 k)) a :=
  ⟨by simpa using h.len,fun n c u h1 h2=>by
    rw [List.getElem?_map,Option.map_eq_some_iff] at h1
    obtain ⟨c',h3,rfl⟩:=h1
    exact b3 4 hk (h.val n c' u h3 h2),vS hk.F hk.hF h.df,fun g row e=>qi (h.gt g row e) hk.fz⟩
def b4 (d:Nat) (S:St):St :=
  match ap S.l d with
  | none=>S
  | some _=>{ t:=S.t.map (a5 4 (.L d)),l:=(iV S.l d).map (dl (.L d)),o:=S.o,b:=S.b }
theorem po {d:Nat} {K:St→Prop}:oW d S K↔K (b4 d S):=by
  unfold oW b4
  cases ap S.l d with
  | none=>exact Iff.rfl
  | some row =>
    show eZ _ _ _↔_
    rw [cx,dA]
theorem jt (hM:ad G pd E S w) {a:Act} (ht:TR G E S.t a) (d:Nat) (hpd:pd d=none):∃ E',ad G pd E' (b4 d S) w∧TR G E' (b4 d S).t a∧E'.mu (.L d)=none∧E'.F=E.F∧ap (b4 d S).l d=none ∧
    (b4 d S).o=S.o∧(b4 d S).b=S.b∧(∀ e,e≠d→E'.mu (.L e)=E.mu (.L e))∧(b4 d S).t.length=S.t.length∧KE (.L d) E E':=by
  unfold b4
  cases hl:ap S.l d with
  | none =>
    have:=hM.loc d
    rw [hl] at this
    exact ⟨E,hM,ht,this,rfl,hl,rfl,rfl,fun _ _=>rfl,rfl,⟨fun _ h=>h,fun _ _ _ _ h=>h,fun _ _=>rfl,fun _ _ _ _ _ _ _ _=>rfl⟩⟩
  | some row =>
    have hke:KE (.L d) E ⟨E.F,ao E.mu (.L d),E.h⟩:=dj
    refine ⟨⟨E.F,ao E.mu (.L d),E.h⟩,?_,ht.kill hke,by simp [ao],rfl,?_,rfl,rfl,fun e he=>?_,by simp,hke⟩
    · refine ⟨hM.hp,hM.os,hM.tape,hM.output,hM.size,hM.keep,hM.F0,hM.Flt,hM.Fnew,fun k b o s n h=>hM.own k b o s n (aR h).2,fun k k' b o s n o' s' n' h h'=>hM.inj _ _ _ _ _ _ _ _ _ (aR h).2 (aR h').2,
        fun e=>?_,fun id=>?_,fun id hid=>?_,hM.bl,hM.szs,fun e row' h=>?_,fun id=>?_⟩
      · show c_ pd _ (ap ((iV S.l d).map (dl (.L d))) e) e
        rw [cn,ff]
        by_cases he:d=e
        · subst he
          rw [if_pos rfl]
          simp [c_,ao]
        · rw [if_neg he]
          have hmu:ao E.mu (.L d) (.L e)=E.mu (.L e):=by unfold ao; rw [if_neg (fun h=>he (by cases h; rfl))]
          have:=hM.loc e
          revert this
          cases ap S.l e with
          | none=>exact fun h=>hmu.trans h
          | some row =>
            rintro (⟨b',h1,h2⟩ | ⟨h1,h2⟩)
            · refine .inl ⟨b',hmu.trans (by simpa using h1),?_⟩
              have:=h2.kill hke (h':=E.h) rfl
              simpa using this
            · exact c_.pend_kill hmu h1 h2
      · have hmu:ao E.mu (.L d) (.O id)=E.mu (.O id):=by unfold ao; rw [if_neg (fun h=>by cases h)]
        show b9 _ _ (ao E.mu (.L d) (.O id))
        rw [hmu]
        have hob:LE E.ob (Env.ob ⟨E.F,ao E.mu (.L d),E.h⟩):=⟨fun _ h=>h,fun k x hs h=>by
          cases k with
          | S _ _=>cases hs
          | L e=>cases h
          | O i =>
            show ao E.mu (.L d) (.O i)=_
            unfold ao
            rw [if_neg (fun h=>by cases h)]
            exact h,fun _ _=>rfl,fun _ _ _ _ _ _ _=>rfl⟩
        exact (hM.obj id).mono2 hke.fz hob (fun _ _ _ _ _=>rfl)
      · have hmu:ao E.mu (.L d) (.O id)=E.mu (.O id):=by unfold ao; rw [if_neg (fun h=>by cases h)]
        show _∨ao E.mu (.L d) (.O id)=_
        rw [hmu]
        exact hM.old id hid
      · have he:d≠e:=fun he=>by rw [← he,hpd] at h; cases h
        obtain ⟨h1,h2⟩:=hM.pk e row' h
        refine ⟨?_,?_⟩
        · show ao E.mu (.L d) (.L e)=none
          unfold ao
          rw [if_neg (fun h=>he (by cases h; rfl))]
          exact h1
        · show ap ((iV S.l d).map (dl (.L d))) e=_
          rw [cn,ff,if_neg he,h2]
          show some _=_
          rw [hM.pend_inv h]
      · have hmu:∀ k,k≠.L d→ao E.mu (.L d) k=E.mu k:=fun k hk=>by
          cases k with
          | L e=>exact gx hk
          | O i=>exact eo hk
          | S i j=>exact qu hk (fun e=>by cases e)
        refine (hM.ow id).mono (hmu (.O id) (by intro e; cases e)) (fun i=>hmu (.S id i) (by intro e; cases e)) hke.fz ⟨fun _ h=>h,fun k x hs h=>?_,fun _ _=>rfl,fun _ _ _ _ _ _ _=>rfl⟩ (fun _ _ _ _ _ _ _=>rfl)
        cases k with
        | S _ _=>cases hs
        | L e=>cases h
        | O i=>exact (hmu (.O i) (by intro e; cases e)).trans h
    · rw [cn,ff,if_pos rfl]; rfl
    · show ao E.mu (.L d) (.L e)=_
      unfold ao
      rw [if_neg (fun h=>he (by cases h; rfl))]
end
def bv (P:Program) (G:Gh) (pd:Nat→Option (List AV)) (o:Oper) (a:Act) (w:World) (K:St→Prop):Prop :=
  ∀ (next:Act→World→Prop) (Q:Exit→Act→World→Prop),(∀ S' E' a' w',K S'→ad G pd E' S' w'→TR G E' S'.t a'→next a' w')→o.wp P a w next Q
section
variable {G:Gh} {pd:Nat→Option (List AV)} {E:Env} {S:St} {w:World} {P:Program} {o:Oper} {a:Act} {K:St→Prop}
theorem aV {S:St} {dst:Option Tmp} {x:AV}:(fa S dst x).l=S.l:=by cases dst <;> rfl
theorem aW {S:St} {dst:Option Tmp} {x:AV}:(fa S dst x).o=S.o:=by cases dst <;> rfl
theorem a2 {S:St} {dst:Option Tmp} {x:AV}:(fa S dst x).b=S.b:=by cases dst <;> rfl
theorem bv.of1 {k:AV→St→Prop} {M:St} (_hM:M.l=S.l∧M.o=S.o∧M.b=S.b) (ht:TR G E S.t a) (h:jq P G pd E M o a w k) (hk:∀ r M',k r M'→∃ S',K S'∧S'=fa { t:=S.t,l:=M'.l,o:=M'.o,b:=M'.b } o.dst r):bv P G pd o a w K:=by
  intro next Q hn
  refine h next Q (fun r z E' w' M' hkr hv hle _ hS=>?_)
  obtain ⟨S',hK,rfl⟩:=hk r M' hkr
  refine hn _ E' _ w' hK (hS.congr aV aW a2) ?_
  exact (TR.mono (t:=S.t) ht hle).put (S:={ t:=S.t,l:=M'.l,o:=M'.o,b:=M'.b }) hv
theorem bk {z:Value} {w':World} (hrun:(execOp a.eval o).run P w=.ok (.value z) w') {next:Act→World→Prop} {Q:Exit→Act→World→Prop} (h:next (a.put o.dst z) w'):o.wp P a w next Q:=by
  unfold Oper.wp
  rw [hrun]
  exact h
theorem ju (t:TypeId) (v:Value):(newVar t v).run P w=.ok ⟨w.heap.size,0,none⟩ { w with heap:=w.heap.push (.cells v.cells t) }:=by
  unfold newVar newRow
  rw [Sem.run_bind]
  rfl
theorem ad.pad {p:Nat→Option (List AV)} {M:St} (hM:ad G p E M w) (k:Nat):ad G p E { t:=M.t,l:=M.l,o:=M.o++List.replicate k Ob.dead,b:=M.b } w:=by
  have hget:∀ id:Nat,(M.o++List.replicate k Ob.dead)[id]?=M.o[id]?∨(M.o[id]?=none∧(M.o++List.replicate k Ob.dead)[id]?=some Ob.dead):=by
    intro id
    by_cases h:id<M.o.length
    · exact .inl (List.getElem?_append_left h)
    · rw [List.getElem?_append_right (by omega),List.getElem?_replicate]
      by_cases h2:id - M.o.length<k
      · rw [if_pos h2]
        exact .inr ⟨List.getElem?_eq_none (by omega),rfl⟩
      · rw [if_neg h2]
        exact .inl (List.getElem?_eq_none (by omega)).symm
  have hbl:=hM.bl
  refine ⟨hM.hp,hM.os,hM.tape,hM.output,hM.size,hM.keep,hM.F0,hM.Flt,hM.Fnew,hM.own,hM.inj,hM.loc,fun id=>?_,fun id hi=>?_,?_,hM.szs,hM.pk,fun id=>?_⟩
  · show b9 E (M.o++List.replicate k Ob.dead)[id]? _
    have:=hM.obj id
    rcases hget id with e | ⟨e1,e2⟩
    · rw [e]
      exact this
    · rw [e2]
      rw [e1] at this
      revert this
      cases E.mu (.O id) with
      | none=>exact fun _=>trivial
      | some _=>exact fun h=>h.elim
  · show (M.o++List.replicate k Ob.dead)[id]?=_∨_
    rw [List.getElem?_append_left (by have:id<M.b:=hi; omega)]
    exact hM.old id hi
  · show M.b≤(M.o++List.replicate k Ob.dead).length
    rw [List.length_append]
    omega
  · show bi E id (M.o++List.replicate k Ob.dead)[id]?
    have:=hM.ow id
    rcases hget id with e | ⟨e1,e2⟩
    · rw [e]
      exact this
    · rw [e2]
      rw [e1] at this
      exact (bi.not rfl).2 ((bi.not rfl).1 this)
theorem mR {j b:Nat} {o:List Ob} {ob:Ob} {k:List Ob→Prop} (h:gZ j o b ob k):b≤j∧(o++List.replicate (j + 1 - o.length) Ob.dead)[j]?=some .dead∧k ((o++List.replicate (j + 1 - o.length) Ob.dead).set j ob):=by
  unfold gZ at h
  split at h
  · rename_i e
    obtain ⟨h1,h⟩:=ab h
    rw [ak] at h
    exact ⟨Nat.le_of_ble_eq_true h1,e,h⟩
  · exact h.elim
theorem pq {pl:aD} (hpd:∀ d,o.dst=some d→bh pl.esc d=false→pd d=none) (hM:ad G pd E S w) (ht:TR G E S.t a) {cs:List AV} {v:Value} {ty:TypeId} (h:rb pl o.dst cs S K) (hcs:aO E cs v.cells.toList)
    (hrun:(execOp a.eval o).run P w=.ok (.value (.pointer (some ⟨w.heap.size,0,none⟩))) { w with heap:=w.heap.push (.cells v.cells ty) }):bv P G pd o a w K:=by
  intro next Q hn
  refine bk hrun ?_
  unfold rb at h
  split at h
  · exact False.elim h
  · rename_i d hd
    replace h:=ab h; obtain ⟨hpos,h⟩:=h
    have hpos':0<cs.length:=Nat.le_of_ble_eq_true hpos
    have arr:∀ {E1:Env},aO E1 cs v.cells.toList→aX E1 (w.heap.push (.cells v.cells ty)) [cs] w.heap.size 0 cs.length:=by
      intro E1 hcs1
      refine aX.of_rows hpos' (fun r hr=>by simp at hr; subst hr; rfl) (bu w _) (by have:=hcs1.1; simp at this; simp; omega) (fun i row r c h1 h2=>?_)
      cases i with
      | zero =>
        simp at h1
        subst h1
        obtain ⟨u,hu,hv⟩:=hcs1.get h2
        exact ⟨u,by simpa using hu,hv⟩
      | succ i=>simp at h1
    split at h
    · replace h:=ab h; obtain ⟨hnl,h⟩:=h
      generalize mE pl.ix (some d) S.o.length=j at h
      obtain ⟨hbj,hdj,h⟩:=mR h
      rw [bV] at h
      have hM1:=hM.pad (j + 1 - S.o.length)
      generalize S.o++List.replicate (j + 1 - S.o.length) Ob.dead=O1 at h hdj hM1
      have hlt:j<O1.length:=(List.getElem?_eq_some_iff.1 hdj).1
      have hkey:E.mu (.O j)=none:=by
        have:=hM1.obj j
        rw [show ({ t:=S.t,l:=S.l,o:=O1,b:=S.b }:St).o[j]?=some Ob.dead from hdj] at this
        revert this
        cases E.mu (.O j) with
        | none=>exact fun _=>rfl
        | some _=>exact fun h=>h.elim
      obtain ⟨hle,hS⟩:=hM1.newkey (ob:=.cells v.cells ty) (key:=.O j) (sz:=cs.length) (n:=1) (fun _ h=>by cases h) hkey
        (M':={ t:=S.t,l:=S.l,o:=O1.set j (.arr (cs.all (bD 4)) cs.length [cs]),b:=S.b }) (fun _ _=>rfl)
        (fun id he=>by
          show (O1.set j _)[id]?=_
          rw [List.getElem?_set_ne (fun e=>he (by rw [e]))]) rfl (by have:=hM1.bl; simpa using this) (fun id he=>by cases he; exact hbj)
        (fun d he=>by cases he)
        (fun id he hle=>by
          cases he
          show b9 _ (O1.set j _)[j]? _
          rw [List.getElem?_set_self hlt]
          refine ⟨⟨rfl,rfl⟩,arr ⟨hcs.1,fun m c u h1 h2=>?_⟩⟩
          have hmem:=List.mem_of_getElem? h1
          have hv:=(hcs.2 m c u h1 h2).mono hle
          cases hf:cs.all (bD 4) with
          | true=>exact fc 4 (List.all_eq_true.1 hf c hmem) hv
          | false=>exact dv 4 (List.all_eq_true.1 hnl c hmem) hv)
        (fun id he=>by
          rcases he with e | ⟨i,e⟩ <;> cases e
          show bi _ j (O1.set j _)[j]?
          rw [List.getElem?_set_self hlt]
          exact hM1.ow_new rfl (by show du O1[j]?=true; rw [hdj]; rfl) rfl)
      refine hn _ _ _ _ h (hS.congr rfl rfl rfl) ?_
      have:=(ht.mono hle).put (S:=S) (dst:=o.dst) (c:=.ptr (.O j) 0 0) (u:=.pointer (some ⟨w.heap.size,0,none⟩)) (by
        have hmu:ai E.mu (.O j) (.blk w.heap.size 0 cs.length 1) (.O j)=some (.blk w.heap.size 0 cs.length 1):=by unfold ai; rw [if_pos rfl]
        have:=VR.ptr (E:=⟨E.F,ai E.mu (.O j) (.blk w.heap.size 0 cs.length 1),w.heap.push (.cells v.cells ty)⟩) 0 0 rfl hmu
        simpa using this)
      rw [hd] at this ⊢
      exact this
    · rename_i hesc
      have hpd':=hpd d hd hesc
      rw [po,cx,bV] at h
      obtain ⟨E1,hM1,ht1,hmu1,hF1,hl1,ho1,hb1,hoth,hlen,hke⟩:=jt hM ht d hpd'
      have hcs1:aO E1 (cs.map (a5 4 (.L d))) v.cells.toList:=⟨by simpa using hcs.1,fun m c u h1 h2=>by
        rw [List.getElem?_map,Option.map_eq_some_iff] at h1
        obtain ⟨c',h3,rfl⟩:=h1
        exact b3 4 hke (hcs.2 m c' u h3 h2)⟩
      have arr':∀ {E2:Env},aO E2 (cs.map (a5 4 (.L d))) v.cells.toList→aX E2 (w.heap.push (.cells v.cells ty)) [cs.map (a5 4 (.L d))] w.heap.size 0 cs.length:=by
        intro E2 h2
        refine aX.of_rows hpos' (fun r hr=>by simp at hr; subst hr; simp) (bu w _) (by have:=h2.1; simp at this; simp; omega) (fun i row r c h3 h4=>?_)
        cases i with
        | zero =>
          simp only [List.getElem?_cons_zero,Option.some.injEq] at h3
          subst h3
          obtain ⟨u,hu,hv⟩:=h2.get h4
          exact ⟨u,by simpa using hu,hv⟩
        | succ i=>simp at h3
      obtain ⟨hle,hS⟩:=hM1.newkey (ob:=.cells v.cells ty) (key:=.L d) (sz:=cs.length) (n:=1) (fun e h=>by cases h; exact hpd') hmu1
        (M':={ t:=(b4 d S).t,l:=(d,cs.map (a5 4 (.L d)))::(b4 d S).l,o:=(b4 d S).o,b:=(b4 d S).b })
        (fun e he=>by
          show (if d=e then _ else ap (b4 d S).l e)=_
          rw [if_neg (fun h=>he (by rw [h]))]) (fun _ _=>rfl) rfl hM1.bl (fun id he=>by cases he)
        (fun e he hle=>by
          cases he
          show c_ pd _ (if d=d then _ else _) d
          rw [if_pos rfl]
          refine .inl ⟨w.heap.size,?_,?_⟩
          · show ai E1.mu (.L d) _ (.L d)=_
            unfold ai
            rw [if_pos rfl,List.length_map]
          · rw [List.length_map]
            exact arr' (hcs1.mono hle))
        (fun id he=>by cases he) s0
      refine hn _ _ _ _ h (hS.congr rfl rfl rfl) ?_
      have:=(ht1.mono hle).put (S:=b4 d S) (dst:=o.dst) (c:=.ptr (.L d) 0 0) (u:=.pointer (some ⟨w.heap.size,0,none⟩)) (by
        have hmu:ai E1.mu (.L d) (.blk w.heap.size 0 cs.length 1) (.L d)=some (.blk w.heap.size 0 cs.length 1):=by unfold ai; rw [if_pos rfl]
        have:=VR.ptr (E:=⟨E1.F,ai E1.mu (.L d) (.blk w.heap.size 0 cs.length 1),w.heap.push (.cells v.cells ty)⟩) 0 0 rfl hmu
        simpa using this)
      rw [hd] at this ⊢
      exact this
theorem ry {pl:aD} {e:TypeId} (hpd:∀ d,o.dst=some d→bh pl.esc d=false→pd d=none) (hM:ad G pd E S w) (ht:TR G E S.t a) (ho:o.op=.alloc e) (h:a9 P e fun cs=>rb pl o.dst cs S K):bv P G pd o a w K:=by
  obtain ⟨i,z,cs,hi,hz,hs,h,hcs⟩:=bf h
  refine pq (ty:=e) (v:=z) hpd hM ht h (hcs E) ?_
  simp [execOp,ho,Instr.alloc,bg hi hz,ju]
theorem rz {pl:aD} {e:TypeId} {x:Operand} (hpd:∀ d,o.dst=some d→bh pl.esc d=false→pd d=none) (hM:ad G pd E S w) (ht:TR G E S.t a) (ho:o.op=.box e x) (h:a_ S x fun c=>gm c fun cs=>rb pl o.dst cs S K):bv P G pd o a w K:=by
  obtain ⟨c,h,hc⟩:=bm h ht
  obtain ⟨cs,h,hcs,_⟩:=gw h hc
  refine pq (ty:=e) (v:=a.eval x) hpd hM ht h hcs ?_
  simp [execOp,ho,Instr.box,ju]
theorem rB (hM:ad G pd E S w):E.mu (.O S.o.length)=none:=by
  have:=hM.obj S.o.length
  rw [List.getElem?_eq_none (Nat.le_refl _)] at this
  revert this
  cases E.mu (.O S.o.length) with
  | none=>exact fun _=>rfl
  | some _=>exact fun h=>h.elim
theorem gy (hM:ad G pd E S w) (ht:TR G E S.t a) {ob:Obj} {x:Ob} (hx:du (some x)=true) {sz n:Nat} {r:AV} {z:Value} (hrun:(execOp a.eval o).run P w=.ok (.value z) { w with heap:=w.heap.push ob })
    (hO:∀ E',LE E E'→E'.h=w.heap.push ob→b9 E' (some x) (some (.blk w.heap.size 0 sz n)))
    (hv:∀ E',E'.h=w.heap.push ob→E'.mu (.O S.o.length)=some (.blk w.heap.size 0 sz n)→VR E' r z)
    (hK:K (fa { t:=S.t,l:=S.l,o:=S.o++[x],b:=S.b } o.dst r)):bv P G pd o a w K:=by
  intro next Q hn
  refine bk hrun ?_
  obtain ⟨hle,hS⟩:=hM.newkey (ob:=ob) (key:=.O S.o.length) (sz:=sz) (n:=n) (fun _ h=>by cases h) (rB hM)
    (M':={ t:=S.t,l:=S.l,o:=S.o++[x],b:=S.b }) (fun _ _=>rfl)
    (fun id he=>by
      show (S.o++[_])[id]?=_
      rcases Nat.lt_trichotomy id S.o.length with h1 | h1 | h1
      · rw [List.getElem?_append_left h1]
      · exact absurd (by rw [h1]) he
      · rw [List.getElem?_eq_none (by simp; omega),List.getElem?_eq_none (by omega)]) rfl (by have:=hM.bl; simp; omega) (fun id he=>by cases he; exact hM.bl)
    (fun d he=>by cases he)
    (fun id he hle=>by
      cases he
      show b9 _ (S.o++[_])[S.o.length]? _
      rw [List.getElem?_append_right (Nat.le_refl _),Nat.sub_self]
      exact hO _ hle rfl) (hM.ow_push rfl hx)
  refine hn _ _ _ _ hK (hS.congr aV aW a2) ?_
  exact (TR.mono (t:=S.t) ht hle).put (S:={ t:=S.t,l:=S.l,o:=S.o++[x],b:=S.b }) (hv _ rfl (by
    show ai _ _ _ _=_
    unfold ai
    rw [if_pos rfl]))
theorem i0 {t:TypeId} (hM:ad G pd E S w) (ht:TR G E S.t a) (ho:o.op=.makeMap t none) (h:ay (S.o++[.mapo true []]) fun o'=>aA o.dst (.mp S.o.length) { t:=S.t,l:=S.l,o:=o',b:=S.b } K):bv P G pd o a w K:=by
  rw [ak,al] at h
  refine gy (ob:=.map #[] 0) (x:=.mapo true []) (sz:=0) (n:=0) (z:=.map (some w.heap.size)) hM ht rfl ?_ (fun E' _ hh=>?_) (fun E' _ hmu=>.mp hmu) h
  · simp [execOp,ho,Instr.makeMap]
  · refine ⟨#[],0,?_,⟨rfl,.empty 0⟩,fun i e m h1=>by simp at h1⟩
    rw [hh]
    exact bu w _
end
theorem j4 {n:Int} (h0:0≤n) (h1:n<9223372036854775808):IntKind.wrap .i64 n=n:=by
  rw [IntKind.wrap_i64]
  omega
def f0 (zero:Array Value) (n:Nat):Array Value:=(Array.range n).map (fun x=>zero[x % zero.size]!)
theorem rC {zero:Array Value} {n sz:Nat} (hs:zero.size=sz) {i r:Nat} (hr:r<sz) (hi:i * sz + r<n):(f0 zero n)[i * sz + r]?=zero[r]?:=by
  unfold f0
  rw [Array.getElem?_map,Array.getElem?_range,if_pos hi,Option.map_some,hs]
  have:(i * sz + r) % sz=r:=by rw [Nat.add_comm,Nat.add_mul_mod_self_right,Nat.mod_eq_of_lt hr]
  rw [this]
  have hrz:r<zero.size:=by omega
  simp [hrz]
theorem dB {zero:Array Value} {n:Nat}:(f0 zero n).size=n:=by simp [f0]
theorem pt {E:Env} {cs:List AV} {zero:Array Value} {sz n k:Nat} (hz:aO E cs zero.toList) (hs:zero.size=sz) (hk:k * sz≤n) {i r:Nat} {row:List AV} {c:AV} (h1:(List.replicate k cs)[i]?=some row) (h2:row[r]?=some c) :
    ∃ u,(f0 zero n)[0 + i * sz + r]?=some u∧VR E c u:=by
  rw [List.getElem?_replicate] at h1
  split at h1
  · rename_i hik
    cases h1
    obtain ⟨u,hu,hv⟩:=hz.get h2
    rw [Array.getElem?_toList] at hu
    have hr:r<sz:=by rw [← hs]; exact (Array.getElem?_eq_some_iff.1 hu).1
    have hm:i * sz + sz≤k * sz:=by rw [← Nat.succ_mul]; exact Nat.mul_le_mul_right sz hik
    exact ⟨u,by rw [Nat.zero_add,rC hs hr (by omega)]; exact hu,hv⟩
  · cases h1
theorem run_askRoom {P:Program} {w:World} (n:Nat):(askRoom n).run P w=.ok () w:=by
  unfold askRoom
  split <;> rfl
section
variable {G:Gh} {pd:Nat→Option (List AV)} {E:Env} {S:St} {w:World} {P:Program} {o:Oper} {a:Act} {K:St→Prop}
theorem i1 {t:TypeId} {X Y:Operand} {e:TypeId} {i:TypeInfo} {z:Value} {kl kc:IntKind} {nl nc:Int} (ho:o.op=.makeSlice t X Y) (hu:P.underlying t=some (.slice e)) (hi:P.info? e=some i) (hz:i.zero=some z) (el:a.eval X=.int kl nl) (ec:a.eval Y=.int kc nc) (h1:0≤nl) (h2:nl≤nc) (h3:i.bytes * nc≤140737488355328) (h4:nc≤140737488355328) :
    (execOp a.eval o).run P w=.ok (.value (.slice (some ⟨w.heap.size,0,none⟩) nl.toNat nc.toNat)) { w with heap:=w.heap.push (.cells (f0 z.cells (nc.toNat * i.size)) e) }:=by
  have hw1:IntKind.i64.wrap nl=nl:=j4 h1 (by omega)
  have hw2:IntKind.i64.wrap nc=nc:=j4 (by omega) (by omega)
  have hx:(execOp a.eval o)=(do pure (.value (← Instr.makeSlice t (.int kl nl) (.int kc nc)))):=by
    unfold execOp
    rw [ho,← el,← ec]
  rw [hx,Sem.run_bind]
  unfold Instr.makeSlice
  simp only [Sem.run_bind,run_underlying hu,Result.andThen_ok,asInt,asIntOf,Sem.run_pure,run_typeInfo w hi,hw1,hw2]
  have hcond:((decide (nc<0)||decide (↑i.bytes * nc>2 ^ 48))||decide (nl<0)||decide (nl>nc))=false:=by
    simp only [Bool.or_eq_false_iff,decide_eq_false_iff_not]
    refine ⟨⟨⟨by omega,?_⟩,by omega⟩,by omega⟩
    have:((2:Int) ^ 48)=281474976710656:=by decide
    rw [this]
    omega
  rw [hcond]
  simp only [Bool.false_eq_true,if_false,Sem.run_bind,run_askRoom,Result.andThen_ok,run_sizeOf hi]
  by_cases hh:nc.toNat * i.size=0
  · rw [if_pos hh]
    have e0:f0 z.cells (nc.toNat * i.size)=(Array.range (nc.toNat * i.size)).map (fun x=>(#[]:Array Value)[x % (#[]:Array Value).size]!):=by
      apply Array.ext_getElem?
      intro m
      rw [hh]
      simp [f0]
    rw [e0]
    rfl
  · rw [if_neg hh]
    simp only [Sem.run_bind,bg hi hz,Result.andThen_ok,Sem.run_pure]
    rfl
theorem gS {t:TypeId} {X Y:Operand} {bx:Bool} (hM:ad G pd E S w) (ht:TR G E S.t a) (ho:o.op=.makeSlice t X Y)
    (h:a_ S X fun l=>a_ S Y fun c=>aJ P t l c S fun S' r=>aA o.dst (zk bx r) S' K):bv P G pd o a w K:=by
  obtain ⟨l,h,hl⟩:=bm h ht
  obtain ⟨c,h,hc⟩:=bm h ht
  unfold aJ at h
  split at h
  · rename_i e hu
    split at h
    · rename_i i hi
      replace h:=aI h hl
      obtain ⟨kl,nl,el,h⟩:=h
      replace h:=aI h hc
      obtain ⟨kc,nc,ec,h⟩:=h
      replace h:=ab h; obtain ⟨hb,h⟩:=h
      simp only [Bool.and_eq_true,decide_eq_true_eq] at hb
      obtain ⟨⟨⟨⟨h1,h2⟩,h3⟩,h4⟩,h5⟩:=hb
      have h0:0<i.size:=Nat.le_of_ble_eq_true h5
      obtain ⟨i',z,cs,hi',hz,hzs,h,hcs⟩:=bf h
      rw [hi] at hi'
      cases hi'
      replace h:=ab h; obtain ⟨hrf,h⟩:=h
      rw [ak,al] at h
      have hne:nc.toNat * i.size≠0∨nc.toNat=0:=by
        by_cases hh:nc.toNat=0
        · exact .inr hh
        · exact .inl (Nat.mul_ne_zero hh (by omega))
      have hcl:cs.length=i.size:=by have:=(hcs E).1; simpa [hzs] using this
      refine gy (ob:=.cells (f0 z.cells (nc.toNat * i.size)) e) (x:=.arr true i.size (List.replicate nl.toNat cs)) (sz:=i.size) (n:=nl.toNat)
        (z:=.slice (some ⟨w.heap.size,0,none⟩) nl.toNat nc.toNat) hM ht rfl ?_ (fun E' hle hh=>?_) (fun E' hh hmu=>?_) h
      · exact i1 ho hu hi hz el ec h1 h2 h3 h4
      · refine ⟨⟨rfl,by simp⟩,?_⟩
        rw [hh]
        refine aX.of_rows h0 (fun r hr=>by rw [List.eq_of_mem_replicate hr]; exact hcl) (bu w _) ?_ (fun i' row r c' h6 h7=>?_)
        · rw [List.length_replicate,dB,Nat.zero_add]
          exact Nat.mul_le_mul_right _ (by omega)
        · obtain ⟨u,hu',hv⟩:=pt (hcs E'.fz) hzs (n:=nc.toNat * i.size) (Nat.mul_le_mul_right _ (by omega)) h6 h7
          exact ⟨u,hu',hv⟩
      · have vx:∀ cap,nl.toNat≤cap→0 + cap * i.size≤au E'.h w.heap.size→VR E' (zk bx (.mf S.o.length)) (.slice (some ⟨w.heap.size,0,none⟩) nl.toNat cap):=fun cap h1 h2=>by
          cases bx with
          | true=>exact .mfx cap hmu h1 h2
          | false=>exact .mf cap hmu h1 h2
        refine vx nc.toNat (by omega) ?_
        rw [hh]
        unfold au
        rw [bu]
        simp [dB]
    · exact False.elim h
  · exact False.elim h
end
theorem kR {n:Nat}:∀ (m:Nat) {cs:List AV},cs.length=m * n→(jW n m cs).flatten=cs∧(∀ r∈jW n m cs,r.length=n)∧(jW n m cs).length=m
  | 0,cs,h=>by
    have:cs=[]:=List.eq_nil_of_length_eq_zero (by simpa using h)
    subst this
    refine ⟨rfl,fun r hr=>?_,rfl⟩
    simp [jW] at hr
  | m + 1,cs,h=>by
    rw [Nat.succ_mul] at h
    obtain ⟨h1,h2,h3⟩:=kR (n:=n) m (cs:=cs.drop n) (by rw [List.length_drop]; omega)
    refine ⟨?_,fun r hr=>?_,by simp [jW,h3]⟩
    · simp only [jW,List.flatten_cons,h1,List.take_append_drop]
    · simp only [jW,List.mem_cons] at hr
      rcases hr with rfl | hr
      · rw [List.length_take]; omega
      · exact h2 r hr
theorem mS {E:Env} {z:List AV} {zero:Array Value} {sz k:Nat} (hz:aO E z zero.toList) (hs:zero.size=sz) (h0:0<sz):aO E (List.replicate k z).flatten (f0 zero (k * sz)).toList:=by
  have hzl:z.length=sz:=by have:=hz.1; simpa [hs] using this
  have hr:∀ r∈List.replicate k z,r.length=sz:=fun r hr=>by rw [List.eq_of_mem_replicate hr]; exact hzl
  have hfl:=aL hr
  rw [List.length_replicate] at hfl
  refine ⟨by rw [hfl,Array.length_toList,dB],fun m c u h1 h2=>?_⟩
  have hm:m<k * sz:=by rw [← hfl]; exact (List.getElem?_eq_some_iff.1 h1).1
  have hi:m / sz<k:=Nat.div_lt_of_lt_mul (by rw [Nat.mul_comm]; exact hm)
  have hmm:m % sz<sz:=Nat.mod_lt _ h0
  have hdm:m / sz * sz + m % sz=m:=by rw [Nat.mul_comm]; exact Nat.div_add_mod m sz
  have hrow:(List.replicate k z)[m / sz]?=some z:=by rw [List.getElem?_replicate,if_pos hi]
  have e1:=bF hr hrow hmm
  rw [hdm] at e1
  rw [e1] at h1
  rw [Array.getElem?_toList] at h2
  have e2:=rC (zero:=zero) (n:=k * sz) hs hmm (i:=m / sz) (by rw [hdm]; exact hm)
  rw [hdm] at e2
  rw [e2] at h2
  exact hz.2 _ c u h1 (by rw [Array.getElem?_toList]; exact h2)
theorem run_buildSlice {P:Program} {w:World} {t e:TypeId} {i:TypeInfo} {z:Value} {len:Nat} {qs:List (Nat×Value)} {us:Array Value} (hu:P.underlying t=some (.slice e)) (hi:P.info? e=some i) (hz:i.zero=some z) (h0:(len + 1) * i.size≠0)
    (hle:(len + 1) * i.size≤16777216) (hf:Instr.fill (fun n=>some (n * i.size,i.size)) (f0 z.cells ((len + 1) * i.size)) qs=some us) :
    (Instr.buildSlice t (len + 1) qs.toArray).run P w=.ok (.slice (some ⟨w.heap.size,0,none⟩) (len + 1) (len + 1)) { w with heap:=w.heap.push (.cells us e) }:=by
  unfold f0 at hf
  unfold Instr.buildSlice
  simp only [Sem.run_bind,run_underlying hu,Result.andThen_ok,run_sizeOf hi]
  rw [if_neg (by have:(2:Nat) ^ 24=16777216:=by decide
                 rw [this]; omega),if_neg h0]
  simp only [Sem.run_bind,bg hi hz,Result.andThen_ok,Sem.run_pure,hf]
  rfl
theorem gT {P:Program} {w:World} {t e:TypeId} {i:TypeInfo} (hu:P.underlying t=some (.slice e)) (hi:P.info? e=some i) :
    (Instr.buildSlice t 0 #[]).run P w=.ok (.slice (some ⟨w.heap.size,0,none⟩) 0 0) { w with heap:=w.heap.push (.cells #[] e) }:=by
  unfold Instr.buildSlice
  simp only [Sem.run_bind,run_underlying hu,Result.andThen_ok,run_sizeOf hi,Nat.zero_mul]
  rw [if_neg (by decide),if_pos trivial]
  simp only [Sem.run_bind,Sem.run_pure,Result.andThen_ok]
  have hf:∀ f,Instr.fill f (Array.map (fun x=>(#[]:Array Value)[x % (#[]:Array Value).size]!) (Array.range 0)) []=some #[]:=by
    intro f
    simp [Instr.fill]
  simp only [hf]
  rfl
section
variable {G:Gh} {pd:Nat→Option (List AV)} {p:Nat→Option (List AV)} {E:Env} {M:St} {w:World} {P:Program} {o:Oper} {a:Act}
theorem yS {E:Env} {b:Bool} {a:Addr}:VR E (xY b) (.slice (some a) 0 0):=by
  cases b with
  | true=>exact .ene _ _
  | false=>exact .esl _ _
theorem pu {parts:Array (Nat×Operand)} {vs:List AV} {us:List Value} (hl:parts.toList.length=vs.length) (hv:aO E vs us) (hu:us=(parts.toList.map (·.2)).map a.eval) :
    zp E ((parts.toList.map (·.1)).zip vs) (parts.toList.map fun p=>(p.1,a.eval p.2)):=by
  refine ⟨by rw [List.map_fst_zip (by simp [← hl])]; simp [Function.comp_def],?_⟩
  rw [List.map_snd_zip (by simp [← hl])]
  rw [hu] at hv
  simpa [Function.comp_def] using hv
theorem oB {pl:aD} {t:TypeId} {len:Nat} {parts:Array (Nat×Operand)} {vs:List AV} {k:AV→Prop} (hM:ad G p E M w) (ho:o.op=.buildSlice t len parts) (hl:parts.toList.length=vs.length)
    (hv:aO E vs ((parts.toList.map (·.2)).map a.eval)) (h:g0 P pl o.dst t len ((parts.toList.map (·.1)).zip vs) k):jq P G p E M o a w (fun r M'=>k r∧M'=M):=by
  have hp:=pu hl hv rfl
  have hex:(execOp a.eval o).run P w=((Instr.buildSlice t len (parts.toList.map fun (p:Nat×Operand)=>(p.1,a.eval p.2)).toArray).run P w).andThen fun z w'=>.ok (.value z) w':=by
    have:(parts.map fun (p:Nat×Operand)=>(p.1,a.eval p.2))=(parts.toList.map fun p=>(p.1,a.eval p.2)).toArray:=by
      apply Array.ext'; simp
    unfold execOp
    rw [ho]
    simp [this]
  intro next Q hn
  unfold g0 at h
  split at h
  · split at h
    · rename_i e hu
      split at h
      · rename_i i hi
        replace h:=ab h; obtain ⟨he,h⟩:=h
        have hnil:(parts.toList.map fun (p:Nat×Operand)=>(p.1,a.eval p.2))=[]:=by
          have h1:=hp.1
          have h2:(parts.toList.map (·.1)).zip vs=[]:=by simpa using he
          rw [h2] at h1
          simp only [List.map_nil] at h1
          exact List.map_eq_nil_iff.1 h1.symm
        rw [hnil,gT hu hi,Result.andThen_ok] at hex
        refine bk hex ?_
        obtain ⟨hle,hS⟩:=hM.below (F':=E.F) (fe w (.cells #[] e)) (fun _ h=>h) (fun b h=>by have:=hM.Flt b h; simp; omega) (fun b h _=>h)
        exact hn _ _ _ _ _ ⟨h,rfl⟩ yS hle (.rfl' rfl) hS
      · exact False.elim h
    · exact False.elim h
  · rename_i len
    split at h
    · rename_i e hu
      split at h
      · rename_i i hi
        obtain ⟨i',z,cs0,hi',hz,hzs,h,hcs⟩:=bf h
        rw [hi] at hi'
        cases hi'
        replace h:=ab h; obtain ⟨hb,h⟩:=h
        simp only [Bool.and_eq_true] at hb
        have h0:0<i.size:=Nat.le_of_ble_eq_true hb.1
        have hle:=Nat.le_of_ble_eq_true hb.2
        obtain ⟨cs,us,h,hvs,hsz,hf⟩:=fb hp (mS (k:=len + 1) (hcs E) hzs h0) h
        replace h:=ab h; obtain ⟨hrf,h⟩:=h
        simp only [Bool.and_eq_true] at hrf
        rw [ek] at h
        have hne:(len + 1) * i.size≠0:=Nat.mul_ne_zero (by omega) (by omega)
        rw [run_buildSlice hu hi hz hne hle hf,Result.andThen_ok] at hex
        refine bk hex ?_
        have hul:us.size=(len + 1) * i.size:=by rw [hsz,dB]
        have hcl:cs.length=(len + 1) * i.size:=by rw [← hul]; simpa using hvs.1
        obtain ⟨hc1,hc2,hc3⟩:=kR (n:=i.size) (len + 1) hcl
        obtain ⟨hlE,hS⟩:=hM.below (F':=fun b=>E.F b∨b=w.heap.size) (fe w (.cells us e)) (fun _ h=>.inl h) (fun b h=>by
          rcases h with h | h
          · have:=hM.Flt b h; simp; omega
          · subst h; simp) (fun b h hlt=>by
          rcases h with h | h
          · exact h
          · omega)
        refine hn _ _ _ _ _ ⟨h,rfl⟩ ?_ hlE (.rfl' rfl) hS
        have:=VR.sl (E:=⟨fun b=>E.F b∨b=w.heap.size,E.mu,w.heap.push (.cells us e)⟩) (rows:=jW i.size (len + 1) cs) (sz:=i.size) (b:=w.heap.size) (o:=0) (cap:=len + 1) us.toList h0 hc2
          (by rw [hc1]; exact hvs.1.symm) (fun m c u h1 h2=>by
            rw [hc1] at h1
            exact (fc 4 (List.all_eq_true.1 hrf.2 c (List.mem_of_getElem? h1)) (hvs.2 m c u h1 h2)).mono hlE.fz) (.inr rfl)
          (fun m u hu'=>by
            show bq (w.heap.push _) _ _=_
            unfold bq
            rw [bu]
            simpa using hu') (by rw [hc3]; exact Nat.le_refl _)
        rw [hc3] at this
        exact this
      · exact False.elim h
    · exact False.elim h
end
section
variable {G:Gh} {pd:Nat→Option (List AV)} {E:Env} {S:St} {w:World} {P:Program} {o:Oper} {a:Act} {K:St→Prop}
theorem kS {pl:aD} {t:TypeId} {len:Nat} {parts:Array (Nat×Operand)} (hM:ad G pd E S w) (ht:TR G E S.t a) (ho:o.op=.buildSlice t len parts)
    (h:bC S (parts.toList.map (·.2)) fun vs=>aB (Nat.beq parts.size vs.length) (ep P pl o.dst t len ((parts.toList.map (·.1)).zip vs) S K)):bv P G pd o a w K:=by
  obtain ⟨vs,h,hv⟩:=bj ht h
  replace h:=ab h; obtain ⟨hpl,h⟩:=h
  have hl:parts.toList.length=vs.length:=by simpa using Nat.eq_of_beq_eq_true hpl
  have hp:=pu (E:=E) (a:=a) hl hv rfl
  have hex:(execOp a.eval o).run P w=((Instr.buildSlice t len (parts.toList.map fun (p:Nat×Operand)=>(p.1,a.eval p.2)).toArray).run P w).andThen fun z w'=>.ok (.value z) w':=by
    have:(parts.map fun (p:Nat×Operand)=>(p.1,a.eval p.2))=(parts.toList.map fun p=>(p.1,a.eval p.2)).toArray:=by
      apply Array.ext'; simp
    unfold execOp
    rw [ho]
    simp [this]
  unfold ep at h
  split at h
  · split at h
    · rename_i e hu
      split at h
      · rename_i i hi
        replace h:=ab h; obtain ⟨he,h⟩:=h
        rw [al] at h
        intro next Q hn
        have hnil:(parts.toList.map fun (p:Nat×Operand)=>(p.1,a.eval p.2))=[]:=by
          have h1:=hp.1
          have h2:(parts.toList.map (·.1)).zip vs=[]:=by simpa using he
          rw [h2] at h1
          simp only [List.map_nil] at h1
          exact List.map_eq_nil_iff.1 h1.symm
        rw [hnil,gT hu hi,Result.andThen_ok] at hex
        refine bk hex ?_
        obtain ⟨hle,hS⟩:=hM.below (F':=E.F) (fe w (.cells #[] e)) (fun _ h=>h) (fun b h=>by have:=hM.Flt b h; simp; omega) (fun b h _=>h)
        exact hn _ _ _ _ h (hS.congr aV aW a2) ((ht.mono hle).put yS)
      · exact False.elim h
    · exact False.elim h
  · rename_i len _
    split at h
    · rename_i e hu
      split at h
      · rename_i i hi
        obtain ⟨i',z,cs0,hi',hz,hzs,h,hcs⟩:=bf h
        rw [hi] at hi'
        cases hi'
        replace h:=ab h; obtain ⟨hb,h⟩:=h
        simp only [Bool.and_eq_true] at hb
        have h0:0<i.size:=Nat.le_of_ble_eq_true hb.1
        have hle:=Nat.le_of_ble_eq_true hb.2
        obtain ⟨cs,us,h,hvs,hsz,hf⟩:=fb hp (mS (k:=len + 1) (hcs E) hzs h0) h
        have hne:(len + 1) * i.size≠0:=Nat.mul_ne_zero (by omega) (by omega)
        rw [run_buildSlice hu hi hz hne hle hf,Result.andThen_ok] at hex
        have hul:us.size=(len + 1) * i.size:=by rw [hsz,dB]
        have hcl:cs.length=(len + 1) * i.size:=by rw [← hul]; simpa using hvs.1
        obtain ⟨hc1,hc2,hc3⟩:=kR (n:=i.size) (len + 1) hcl
        split at h
        · rename_i hms
          simp only [Bool.or_eq_false_iff,Bool.not_eq_false'] at hms
          rw [ek,al] at h
          intro next Q hn
          refine bk hex ?_
          obtain ⟨hlE,hS⟩:=hM.below (F':=fun b=>E.F b∨b=w.heap.size) (fe w (.cells us e)) (fun _ h=>.inl h) (fun b h=>by
            rcases h with h | h
            · have:=hM.Flt b h; simp; omega
            · subst h; simp) (fun b h hlt=>by
            rcases h with h | h
            · exact h
            · omega)
          refine hn _ _ _ _ h (hS.congr aV aW a2) ((ht.mono hlE).put ?_)
          have:=VR.sl (E:=⟨fun b=>E.F b∨b=w.heap.size,E.mu,w.heap.push (.cells us e)⟩) (rows:=jW i.size (len + 1) cs) (sz:=i.size) (b:=w.heap.size) (o:=0) (cap:=len + 1) us.toList h0 hc2
            (by rw [hc1]; exact hvs.1.symm) (fun m c u h1 h2=>by
              rw [hc1] at h1
              exact (fc 4 (List.all_eq_true.1 hms.2 c (List.mem_of_getElem? h1)) (hvs.2 m c u h1 h2)).mono hlE.fz) (.inr rfl)
            (fun m u hu'=>by
              show bq (w.heap.push _) _ _=_
              unfold bq
              rw [bu]
              simpa using hu') (by rw [hc3]; exact Nat.le_refl _)
          rw [hc3] at this
          exact this
        · replace h:=ab h; obtain ⟨hnl,h⟩:=h
          rw [ek,ak,al] at h
          refine gy (ob:=.cells us e) (x:=.arr (cs.all (bD 4)) i.size (jW i.size (len + 1) cs)) (sz:=i.size) (n:=len + 1) hM ht rfl hex (fun E' hlE hh=>?_) (fun E' hh hmu=>?_) h
          · refine ⟨⟨rfl,hc3.symm⟩,h0,hc2,us,e,by rw [hh]; exact bu w _,by rw [hc3,hul]; omega,fun m c hc=>?_⟩
            rw [hc1] at hc
            obtain ⟨u,hu',hv'⟩:=hvs.get hc
            refine ⟨u,by simpa using hu',?_⟩
            have hmem:=List.mem_of_getElem? hc
            have hv2:=hv'.mono hlE
            cases hf2:cs.all (bD 4) with
            | true=>exact fc 4 (List.all_eq_true.1 hf2 c hmem) hv2
            | false=>exact dv 4 (List.all_eq_true.1 hnl c hmem) hv2
          · refine .mf _ hmu (Nat.le_refl _) ?_
            rw [hh]
            unfold au
            rw [bu]
            simp [hul]
      · exact False.elim h
    · exact False.elim h
end
end A
end Go.Proofs.Ytaekcekecdocnaa
