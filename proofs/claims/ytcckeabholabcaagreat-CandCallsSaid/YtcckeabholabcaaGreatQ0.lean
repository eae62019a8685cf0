/- Candidates are checked and queried as the document says. Plain law. -/
import Derived.Test.YtcckeabholabcaaGreatQ3
import Derived.KernelRfl
namespace Go.Proofs.YtcckeabholabcaaGreat
open Go A

theorem CC {n:Nat} {c:ai} (hr:ox n c) {l l':List Int} (e1:l.length=c.Harts.flatten.length) (e2:l'.length=c.Harts.flatten.length) (h1:pJ c l c.Order.length) (h2:pJ c l' c.Order.length):l=l':=by
  refine List.ext_getElem (by omega) fun k hk hk'=>?_
  rcases h1 k hk with ⟨a1,a2⟩ | ⟨a,ha,_,a2,a3⟩
  · rcases h2 k hk' with ⟨b1,b2⟩ | ⟨b,hb,hb2,b2,b3⟩
    · rw [a1,b1]
    · exact absurd b2 (a2 b hb2 hb)
  · rcases h2 k hk' with ⟨b1,b2⟩ | ⟨b,hb,hb2,b2,b3⟩
    · exact absurd a2 (b2 a ha ha)
    · rw [a3,b3]
      rcases Nat.lt_trichotomy a b with h | h | h
      · exact absurd (a2.trans b2.symm) (hr.dist a b ha hb h)
      · rw [h]
      · exact absurd (b2.trans a2.symm) (hr.dist b a hb ha h)
set_option maxRecDepth 100000 in
theorem HA:pM 1000000=some true:=by kernel_rfl

theorem DN (n:Nat) (c:ai) (hc:gJ c) (hr:ox n c) (hn:200≤n) (h k:Nat) (hh:h<c.Harts.length) (hk:k<c.Harts[h].length):ew n c (h:Int) (k:Int)=some ((((FL c.Harts h).length + k:Nat):Int),0):=by
  have hf:=hc.all
  have hhl:=hc.harts
  have hro:=jz hh
  have key:T (ew n c (h:Int) (k:Int)) (fun r=>r=((((FL c.Harts h).length + k:Nat):Int),0)):=by
    unfold ew
    refine T.eqb (uP n c hc hn hr) ?_
    refine T.ite (fun d=>by simp at d) (fun _=>?_)
    refine T.ite (fun d=>by have:=of_decide_eq_true d; omega) (fun _=>?_)
    refine T.ite (fun d=>by have:=of_decide_eq_true d; omega) (fun _=>?_)
    refine T.ite (fun d=>by have:=of_decide_eq_true d; omega) (fun _=>?_)
    refine T.get h rfl hh ?_
    refine T.ite (fun d=>by have:=of_decide_eq_true d; omega) (fun _=>?_)
    refine T.bind (P:=fun t=>t=(((FL c.Harts h).length + k:Nat):Int)) ?_ ?_
    · refine T.loop h (fun i s=>s=(((((FL c.Harts i).length + k:Nat):Int),(i:Int)))) _ ?_ (by simp [sG]) (by omega)
      rintro i s hi rfl
      unfold jZ
      refine T.ite (fun cd=>?_) (fun cd=>?_)
      rotate_left
      · have hge:=eu cd
        have e:i=h:=by omega
        subst e
        exact T.fin rfl
      have hil:i<h:=ej cd
      have hri:=jz (l:=c.Harts) (i:=i) (by omega)
      have hkk:c.Harts[h].length≤60:=by
        have:=jz hh
        omega
      refine T.get i rfl (by omega) ?_
      refine T.ret ⟨hil,?_⟩
      dsimp only
      rw [bU _ (by omega),addN _ _ (by omega),fT (by omega),List.length_append]
      congr 2
      omega
    · rintro t rfl
      exact T.ret rfl
  obtain ⟨r,h1,h2⟩:=key
  rw [h1,h2]
theorem DO (n:Nat) (c:ai) (hc:gJ c) (hr:ox n c) (hn:200≤n) (hart at_:Int):T (dB n c hart at_) (fun r=>ew n c hart at_=some r):=by
  by_cases h0:hart<0
  · refine ⟨(0,6),?_,?_⟩
    · unfold dB
      rw [iI n c hc hn hr,Option.bind_some,if_neg (by simp),if_pos (by simpa using h0)]
    · unfold ew
      rw [uP n c hc hn hr,Option.bind_some,if_neg (by simp),if_pos (by simpa using h0)]
  by_cases h1:hart≥(c.Harts.length:Int)
  · refine ⟨(0,6),?_,?_⟩
    · unfold dB
      rw [iI n c hc hn hr,Option.bind_some,if_neg (by simp),if_neg (by simpa using h0),if_pos (by simpa using h1)]
    · unfold ew
      rw [uP n c hc hn hr,Option.bind_some,if_neg (by simp),if_neg (by simpa using h0),if_pos (by simpa using h1)]
  by_cases h2:at_<0
  · refine ⟨(0,6),?_,?_⟩
    · unfold dB
      rw [iI n c hc hn hr,Option.bind_some,if_neg (by simp),if_neg (by simpa using h0),if_neg (by simpa using h1),if_pos (by simpa using h2)]
    · unfold ew
      rw [uP n c hc hn hr,Option.bind_some,if_neg (by simp),if_neg (by simpa using h0),if_neg (by simpa using h1),if_pos (by simpa using h2)]
  obtain ⟨h,rfl⟩:∃ h:Nat,hart=(h:Int):=⟨hart.toNat,by omega⟩
  obtain ⟨k,rfl⟩:∃ k:Nat,at_=(k:Int):=⟨at_.toNat,by omega⟩
  have hh:h<c.Harts.length:=by omega
  by_cases h3:(k:Int)≥(c.Harts[h].length:Int)
  · refine ⟨(0,6),?_,?_⟩
    · unfold dB
      rw [iI n c hc hn hr,Option.bind_some,if_neg (by simp),if_neg (by simp),if_neg (by simpa using h1),if_neg (by simp),sK hh,Option.bind_some,if_pos (by simpa using h3)]
    · unfold ew
      rw [uP n c hc hn hr,Option.bind_some,if_neg (by simp),if_neg (by simp),if_neg (by simpa using h1),if_neg (by simp),sK hh,Option.bind_some,if_pos (by simpa using h3)]
  exact ⟨_,Ii n c hc hn (iI n c hc hn hr) h k hh (by omega),DN n c hc hr hn h k hh (by omega)⟩
theorem DR (n:Nat) (c:ai) (hart at_:Int) {r:Int} (h1:dy n c=some r) (h2:r≠0) (h3:bW n c=some 2):dB n c hart at_=some (0,2)∧ew n c hart at_=some (0,2):=by
  unfold dB ew
  rw [h1,h3,Option.bind_some,Option.bind_some,if_pos (by simp),if_pos (by simpa using h2)]
  exact ⟨rfl,rfl⟩

theorem Il {n:Nat} {c:ai} {r:Int} (h:dy n c=some r):r=0∨r=2:=by
  unfold dy at h
  obtain ⟨y1,_,h⟩:=vy h
  rcases EC h with ⟨_,h⟩ | ⟨_,h⟩
  · exact .inr (ED h).symm
  rcases EC h with ⟨_,h⟩ | ⟨_,h⟩
  · exact .inr (ED h).symm
  rcases EC h with ⟨_,h⟩ | ⟨_,h⟩
  · exact .inr (ED h).symm
  obtain ⟨t5,_,h⟩:=vy h
  rcases t5 with w6 | w6
  · dsimp only at h
    obtain ⟨y7,_,h⟩:=vy h
    rcases EC h with ⟨_,h⟩ | ⟨_,h⟩
    · exact .inr (ED h).symm
    obtain ⟨t9,_,h⟩:=vy h
    rcases t9 with w10 | w10
    · dsimp only at h
      replace h:=(J8 h).2
      obtain ⟨t12,_,h⟩:=vy h
      rcases t12 with w13 | w13
      · dsimp only at h
        rcases EC h with ⟨_,h⟩ | ⟨_,h⟩
        · exact .inr (ED h).symm
        · exact .inl (ED h).symm
      · exact .inr (ED h).symm
    · exact .inr (ED h).symm
  · exact .inr (ED h).symm
theorem FN (n:Nat) (c o:ai) (hart at_ addr:Int) (hn:2000≤n) (hl:pM n=some true) (hw:Hz c):T (j5 n c o hart at_ addr) (fun b=>b=true):=by
  unfold j5
  refine T.eqb hl ?_
  refine T.ite (fun d=>by simp at d) (fun _=>?_)
  obtain ⟨b1,e1,p1⟩:=Hj n c 60 (Nat.le_refl _) (by omega)
  refine T.eqb e1 ?_
  refine T.ite (fun _=>T.ret rfl) (fun d1=>?_)
  have hc:=(p1 (l6 d1)).1
  obtain ⟨b2,e2,p2⟩:=Hj n o 60 (Nat.le_refl _) (by omega)
  refine T.eqb e2 ?_
  refine T.ite (fun _=>T.ret rfl) (fun d2=>?_)
  have ho:=Lo n c hc hn
  obtain ⟨sv,se,sp⟩:=Ll n c o hc hn
  obtain ⟨kv,ke,kp⟩:=Lm n c o hc hn
  have tail:T ((mY n c o).bind fun y31=>(oI n c o).bind fun y32=>some (y31==y32)) (fun b=>b=true):=by
    refine T.eqb se (T.eqb ke (T.ret ?_))
    cases sv <;> cases kv <;> simp_all
  rcases If n c hc (by omega) with hr | ⟨⟨r,hr1,hr2⟩,s,hs1,hs2⟩
  · -- valid
    obtain ⟨nr,n1,n2⟩:=DO n c hc hr (by omega) hart at_
    have k0:=iI n c hc (by omega) hr
    have r0:=uP n c hc (by omega) hr
    refine T.eqb n1 (T.eqb n2 ?_)
    refine T.ite (fun _=>?_) (fun d=>by simp at d)
    refine T.ite (fun _=>?_) (fun d=>by simp at d)
    refine T.eqb k0 (T.eqb r0 ?_)
    refine T.ite (fun _=>?_) (fun d=>by simp at d)
    refine T.eqb ho (T.eqb (Pk n c hc (by omega) k0) ?_)
    have ra:pN n c=some c.Harts.flatten:=by
      unfold pN
      rw [r0,Option.bind_some,if_neg (by simp),EA n c hc (by omega),Option.bind_some]
    refine T.eqb ra ?_
    have hev:∀ e∈c.Harts.flatten,pL e:=fun e he=>by
      obtain ⟨l,hl,hel⟩:=List.mem_flatten.1 he
      exact vx ((hc.rows l hl).2 e hel)
    refine T.eqb ((AX n _ _ (by have:=hc.all; omega) hev hn).true_ rfl) ?_
    refine T.ite (fun _=>?_) (fun d=>by simp at d)
    obtain ⟨pl,p1,p2,p3⟩:=Ih n c hc (by omega) k0 hr
    obtain ⟨ql,q1,q2,q3⟩:=DK n c hc hr (by omega)
    refine T.eqb p1 (T.eqb q1 ?_)
    refine T.eqb ((DL n pl ql (by have:=hc.all; omega) hn).true_ (CC hr p2 q2 p3 q3)) ?_
    refine T.ite (fun _=>?_) (fun d=>by simp at d)
    obtain ⟨v,v1,v2⟩:=DI n c.First addr hr.cells (by have:=hc.first; omega) (by omega)
    have f1:jM n c addr=some v:=by
      unfold jM
      rw [k0,Option.bind_some,if_neg (by simp),v1,Option.bind_some]
    have f2:lk n c addr=some v:=by
      unfold lk
      rw [r0,Option.bind_some,if_neg (by simp),← uO n c.First addr hr.cells (by have:=hc.first; omega) (by omega),v1,Option.bind_some]
    refine T.eqb f1 (T.eqb f2 ?_)
    refine T.ite (fun _=>?_) (fun d=>by simp at d)
    obtain ⟨l,l1,l2,l3⟩:=Lt n c hc hr hw hn
    refine T.eqb ho (T.eqb l1 (T.eqb l2 ?_))
    refine T.eqb ((Hs n l l l3 hn).true_ rfl) ?_
    refine T.ite (fun _=>tail) (fun d=>by simp at d)
  · -- not valid
    obtain ⟨s',c1,c2⟩:=Hp n c hc (by omega)
    have es:s'=s:=Option.some.inj (c1.symm.trans hs1)
    have e2s:s'=2:=by
      rcases c2 with ⟨h,_⟩ | ⟨h,_⟩
      · exact absurd (es▸h) hs2
      · exact h
    rw [e2s] at c1
    have er:r=2:=(Il hr1).resolve_left hr2
    obtain ⟨m1,m2⟩:=DR n c hart at_ hr1 hr2 c1
    refine T.eqb m1 (T.eqb m2 ?_)
    refine T.ite (fun _=>?_) (fun d=>by simp at d)
    refine T.ite (fun _=>?_) (fun d=>by simp at d)
    refine T.eqb c1 (T.eqb hr1 ?_)
    refine T.ite (fun _=>?_) (fun d=>by rw [er] at d; simp at d)
    have bad1:ly n c=some []:=by
      unfold ly
      rw [c1,Option.bind_some,if_pos (by simp)]
    have bad2:pN n c=some []:=by
      unfold pN
      rw [hr1,Option.bind_some,if_pos (by simpa using hr2)]
    refine T.eqb ho (T.eqb bad1 (T.eqb bad2 ?_))
    refine T.eqb ((AX n [] [] (by simp) (fun e h=>by cases h) hn).true_ rfl) ?_
    refine T.ite (fun _=>?_) (fun d=>by simp at d)
    have bad3:iL n c=some []:=by
      unfold iL
      rw [c1,Option.bind_some,if_pos (by simp)]
    have bad4:jL n c=some []:=by
      unfold jL
      rw [hr1,Option.bind_some,if_pos (by simpa using hr2)]
    refine T.eqb bad3 (T.eqb bad4 ?_)
    refine T.eqb ((DL n [] [] (by simp) hn).true_ rfl) ?_
    refine T.ite (fun _=>?_) (fun d=>by simp at d)
    have bad5:jM n c addr=some 0:=by
      unfold jM
      rw [c1,Option.bind_some,if_pos (by simp)]
    have bad6:lk n c addr=some 0:=by
      unfold lk
      rw [hr1,Option.bind_some,if_pos (by simpa using hr2)]
    refine T.eqb bad5 (T.eqb bad6 ?_)
    refine T.ite (fun _=>?_) (fun d=>by simp at d)
    have bad7:jK n c=some []:=by
      unfold jK
      rw [c1,Option.bind_some,if_pos (by simp)]
    have bad8:mX n c=some []:=by
      unfold mX
      rw [hr1,Option.bind_some,if_pos (by simpa using hr2)]
    refine T.eqb ho (T.eqb bad7 (T.eqb bad8 ?_))
    refine T.eqb ((Hs n [] [] (by simp) hn).true_ rfl) ?_
    exact T.ite (fun _=>tail) (fun d=>by simp at d)
theorem q8 (c o:ai) (hart at_ addr:Int) (hc:ai.wf c) (_:ai.wf o) (_:vB .i64 hart) (_:vB .i64 at_) (_:vB .u64 addr):j5 1000000 c o hart at_ addr=some true:=by
  obtain ⟨b,h1,h2⟩:=FN 1000000 c o hart at_ addr (by omega) HA ⟨fun x hx=>(hc.1.2 x hx).1,fun e he=>by
    obtain ⟨l,hl,hel⟩:=List.mem_flatten.1 he
    exact ((hc.2.1.2 l hl).2 e hel).2.2.2.1⟩
  rw [h1,h2]
end Go.Proofs.YtcckeabholabcaaGreat
