/- If harts are exchanged only numbers change. Plain law. -/
import Derived.Test.YtcckeabholabcaaH3
import Derived.KernelRfl
namespace Go.Proofs.Ytcckeabholabcaa
open Go A

set_option maxRecDepth 100000 in
theorem ER:nm 1000000=some true:=by kernel_rfl
theorem Ih (n:Nat) (a:Int) (m:Nat) (h:1≤m) (hm:m≤100000):T (pg n a (m:Int)) (fun r=>0≤r∧r<(m:Int)):=by
  have h1:=Int.tmod_lt_of_pos a (b:=(m:Int)) (by omega)
  have h2:-(m:Int)<Int.tmod a (m:Int):=by
    have:=Int.lt_tmod_of_pos a (b:=(m:Int)) (by omega)
    omega
  unfold pg
  refine T.ite (fun d=>by have:=of_decide_eq_true d; omega) (fun _=>?_)
  refine T.grd (by simp; omega) ?_
  unfold kO
  refine T.ite (fun d=>?_) (fun d=>?_)
  · have d:=of_decide_eq_true d
    rw [wR (by omega) (by omega)]
    exact T.ret ⟨by omega,by omega⟩
  · have d:=of_decide_eq_false d
    exact T.ret ⟨by omega,h1⟩
theorem Ii (n:Nat) (l:List Event) (a:List Int) (b:List (Int×Int)) (c:List (List Event)) (hl:l.length≤1000) (hs:∀ e∈l,Bc e) (hn:2000≤n):fR n l a b c=some l:=by
  unfold fR
  have:=qW (l:=l) (r:=l) (step:=fun s=>cq n l a b c s) rfl (fun i h h'=>?_) ?_ l.length 0 n (by omega) (by omega)
  · have e:iter (fun s=>cq n l a b c s) n (([]:List Event),0)=some l:=this
    rw [e,Option.bind_some]
  · unfold cq
    dsimp only
    rw [if_pos (by simp; omega),z9 h,Option.bind_some,He n _ (hs _ (List.getElem_mem h)),Option.bind_some,iT (iS (by rw [List.length_take]; omega)),nk (by omega)]
  · unfold cq
    exact C3
/-- The rows, rotated. -/
def lc (l:List (List Event)) (b:Nat):List (List Event):=(List.range l.length).map fun i=>((l[(i + b) % l.length]?).getD []).map (gM (i:Int))
theorem z5 {l:List (List Event)} {b:Nat} (i:Nat) (h:i<l.length) (h':i<(lc l b).length):(lc l b)[i]=(l[(i + b) % l.length]'(Nat.mod_lt _ (by omega))).map (gM (i:Int)):=by
  simp only [lc,List.getElem_map,List.getElem_range]
  rw [List.getElem?_eq_getElem (Nat.mod_lt _ (by omega)),Option.getD_some]
theorem uZ (l:List (List Event)) (b:Nat):(lc l b).length=l.length:=by
  unfold lc
  rw [List.length_map,List.length_range]
theorem z6 {l:List (List Event)} {b:Nat} (hb:b<l.length):z_ l (lc l b) b :=
  ⟨hb,uZ l b,fun i h=>z5 i (by rw [uZ] at h; exact h) h⟩
theorem wQ {a:Int}:∀ {m:List (Int×Int)},b9 bo m a=none→a ∉ m.map (·.1)
  | [],_=>by simp
  | e::m,h=>by
    unfold b9 at h
    by_cases h1:bo a e.1=true
    · rw [if_pos h1] at h
      cases h
    · rw [if_neg h1] at h
      rw [List.map_cons,List.mem_cons]
      rintro (h2 | h2)
      · exact h1 (by unfold bo; simpa using h2)
      · exact wQ h h2
/-- The map after P events. -/
structure Hi (B N P:Nat) (m:List (Int×Int)):Prop where
  len:m.length=P
  at_:∀ k:Nat,k<N→b9 bo m (k:Int)=if mr B N k<P then some ((mr B N k:Nat):Int) else none
theorem Hi.put {B N P:Nat} {m:List (Int×Int)} (h:Hi B N P m) (hB:B≤N) (hP:P<N):Hi B N (P + 1) (hG bo m ((C4 B N P:Nat):Int) (m.length:Int)):=by
  have h0:=h.at_ (C4 B N P) (Be hB hP)
  rw [ye hB hP,if_neg (by omega)] at h0
  refine ⟨?_,fun k hk=>?_⟩
  · have e:=congrArg List.length (qd ((C4 B N P:Nat):Int) (m.length:Int) m)
    rw [if_neg (wQ h0),List.length_map,List.length_append,List.length_map] at e
    rw [e,h.len]
    rfl
  · rw [uY,h.at_ k hk,h.len]
    by_cases e:k=C4 B N P
    · subst e
      rw [if_pos rfl,ye hB hP,if_pos (by omega)]
    · rw [if_neg (by omega)]
      have:mr B N k≠P:=fun e2=>e (by rw [← e2,yf hB hk])
      by_cases c:mr B N k<P
      · rw [if_pos c,if_pos (by omega)]
      · rw [if_neg c,if_neg (by omega)]
theorem FF {α:Type} (f:α→α) (r:List α) (k:Nat) (h:k<r.length):((r.take k).map f++r.drop k).set k (f r[k])=(r.take (k + 1)).map f++r.drop (k + 1):=by
  have e:r.drop k=r[k]::r.drop (k + 1):=List.drop_eq_getElem_cons h
  rw [e,List.set_append_right _ _ (by simp; omega),List.length_map,List.length_take,Nat.min_eq_left (by omega),Nat.sub_self,List.set_cons_zero,List.take_add_one,List.getElem?_eq_getElem h,List.map_append]
  simp
theorem Hj {α:Type} (f:α→α) (r:List α) (k:Nat) (h:k<r.length):aH ((r.take k).map f++r.drop k) (k:Int)=some r[k]:=by
  rw [i6,List.getElem?_append_right (by simp; omega),List.length_map,List.length_take,Nat.min_eq_left (by omega),Nat.sub_self,List.getElem?_drop,Nat.add_zero,List.getElem?_eq_getElem h]
theorem FG {α:Type} (f:α→α) (r:List α) (k:Nat) (h:k≤r.length):((r.take k).map f++r.drop k).length=r.length:=by
  rw [List.length_append,List.length_map,List.length_take,List.length_drop]
  omega

/-- Where each row begins. -/
theorem Hk (n:Nat) (c:az) (y7:Int) (y8:List Cell) (hc:kN c) (h1:1≤c.Harts.length) (hn:2000≤n) :
    T (iter (fun s=>eL n c y7 y8 s) n ((List.replicate ((c.Harts.length:Int)).toNat 0),1)) (fun t=>t.length=c.Harts.length∧∀ (j:Nat) (h:j<t.length),t[j]=((FL c.Harts j).length:Int)):=by
  have hh:=hc.harts
  have hf:=hc.all
  refine T.loop (c.Harts.length - 1) (fun i s=>s.2=((i + 1:Nat):Int)∧s.1.length=c.Harts.length∧∀ (j:Nat) (h:j<s.1.length),j≤i→s.1[j]=((FL c.Harts j).length:Int)) _ ?_ ⟨rfl,by simp,fun j h hj=>?_⟩ (by omega)
  · rintro i ⟨l,s2⟩ hi ⟨e,hl,hq⟩
    dsimp only at e hl hq
    subst e
    unfold eL
    refine T.ite (fun cd=>?_) (fun cd=>?_)
    · have hil:i + 1<c.Harts.length:=gz cd
      have hro:=mc (l:=c.Harts) (i:=i) (by omega)
      have e1:ai .i64 ((i + 1:Nat):Int) 1=(i:Int):=by rw [BW _ (by omega) (by omega)]; rfl
      dsimp only
      rw [e1]
      refine T.get i rfl (by omega) ?_
      refine T.get i rfl (by omega) ?_
      refine T.get (i + 1) rfl (by omega) ?_
      refine T.ret ⟨by omega,?_⟩
      dsimp only
      refine ⟨nk (by omega),by rw [List.length_set]; exact hl,fun j h hj=>?_⟩
      rw [EH (j:=i + 1) rfl h (by rw [List.length_set] at h; exact h)]
      split
      · rename_i e2
        subst e2
        rw [hq i (by omega) (Nat.le_refl _),fy (by omega),List.length_append,addN _ _ (by omega)]
      · exact hq j (by rw [List.length_set] at h; exact h) (by omega)
    · have hge:c.Harts.length≤i + 1:=gh cd
      exact T.fin ⟨hl,fun j h=>hq j h (by dsimp only at h; omega)⟩
  · have:j=0:=by omega
    subst this
    simp [jI]
/-- The rows and the numbers. -/
theorem Ij (n:Nat) (c:az) (b:Nat) (y8:List Cell) (t10:List Int) (hc:kN c) (hb:b<c.Harts.length) (hn:2000≤n) (ht:t10.length=c.Harts.length) (hq:∀ (j:Nat) (h:j<t10.length),t10[j]=((FL c.Harts j).length:Int)) :
    T (iter (fun s=>eM n c (b:Int) y8 t10 s) n (([]:List (Int×Int)),([]:List (List Event)),0)) (fun t=>t.2=lc c.Harts b∧Hi (FL c.Harts b).length c.Harts.flatten.length c.Harts.flatten.length t.1):=by
  have hh:=hc.harts
  have hf:=hc.all
  have R:=z6 hb
  have hB:=uU c.Harts b
  have hRl:=uZ c.Harts b
  have hfl:=R.flen
  refine T.loop c.Harts.length (fun h s=>s.2.2=(h:Int)∧s.2.1=(lc c.Harts b).take h∧Hi (FL c.Harts b).length c.Harts.flatten.length (FL (lc c.Harts b) h).length s.1) _ ?_ ⟨rfl,rfl,rfl,fun k hk=>by rw [if_neg (by rw [jI]; exact Nat.not_lt_zero _)]; rfl⟩ (by omega)
  rintro h ⟨m,dh,s3⟩ hi ⟨e1,e2,hN⟩
  dsimp only at e1 e2 hN
  subst e1 e2
  unfold eM
  refine T.ite (fun cd=>?_) (fun cd=>?_)
  rotate_left
  · have hge:=gh cd
    refine T.fin ⟨?_,?_⟩
    · dsimp only
      rw [List.take_of_length_le (by omega)]
    · rw [ko (lc c.Harts b) (by omega),hfl] at hN
      exact hN
  have hil:h<c.Harts.length:=gz cd
  have hw:(h + b) % c.Harts.length<c.Harts.length:=Nat.mod_lt _ (by omega)
  have erem:kO .i64 (ad .i64 (h:Int) (b:Int)) (c.Harts.length:Int)=(((h + b) % c.Harts.length:Nat):Int):=by
    rw [addN _ _ (by omega)]
    unfold kO
    rw [Int.tmod_eq_emod_of_nonneg (by omega)]
    exact (Int.natCast_emod _ _).symm
  refine T.grd (by
    have:c.Harts.length≠0:=by omega
    simp
    intro e
    exact this (by rw [e]; rfl)) ?_
  dsimp only
  rw [erem]
  refine T.get _ rfl hw ?_
  have hs:=hc.rows _ (List.getElem_mem hw)
  refine T.eqb (Ii n _ _ _ _ (by have:=hs.1; omega) (fun e he=>FC (hs.2 e he)) hn) ?_
  have hrow:=z5 (b:=b) h hil (by omega)
  have hlen:((lc c.Harts b)[h]'(by omega)).length=(c.Harts[(h + b) % c.Harts.length]).length:=by rw [hrow,List.length_map]
  have hFR:=mc (l:=lc c.Harts b) (i:=h) (by omega)
  have hold:=fun (k:Nat) (hk:k<((lc c.Harts b)[h]'(by omega)).length)=>R.old h k (by omega) hk
  generalize hr:c.Harts[(h + b) % c.Harts.length]=r at *
  have hr60:r.length≤60:=by omega
  refine T.bind (P:=fun t=>t.2.1=(lc c.Harts b).take h∧t.2.2.1=(h:Int)∧t.2.2.2=r.map (gM (h:Int))∧Hi (FL c.Harts b).length c.Harts.flatten.length (FL (lc c.Harts b) (h + 1)).length t.1) ?_ ?_
  · refine T.loop r.length (fun k s=>s.2=((lc c.Harts b).take h,(r.take k).map (gM (h:Int))++r.drop k,(h:Int),(((h + b) % c.Harts.length:Nat):Int),(k:Int))∧Hi (FL c.Harts b).length c.Harts.flatten.length ((FL (lc c.Harts b) h).length + k) s.1) _ ?_ ⟨by simp,hN⟩ (by omega)
    rintro k ⟨m,s2⟩ hk ⟨e,hN⟩
    dsimp only at e hN
    subst e
    unfold fS
    dsimp only
    rw [FG _ _ _ hk]
    refine T.ite (fun cd=>?_) (fun cd=>?_)
    · have hkl:k<r.length:=gz cd
      refine T.eqb (Hj _ _ _ hkl) ?_
      refine T.get _ rfl (by omega) ?_
      have ho:=hold k (by omega)
      have hsl:=Be hB (k:=(FL (lc c.Harts b) h).length + k) (by omega)
      refine T.ret ⟨hkl,?_,?_⟩
      · dsimp only
        have e5:Event.mk (h:Int) r[k].At r[k].Kind r[k].Addr r[k].Load r[k].Store r[k].Aq r[k].Rl r[k].Pred r[k].Succ r[k].Pair r[k].Deps=gM (h:Int) r[k]:=rfl
        rw [e5,Int.toNat_natCast,FF _ _ _ hkl,nk (by omega)]
      · dsimp only
        rw [hq _ (by omega),addN _ _ (by omega),ho]
        exact hN.put hB (by omega)
    · have hge:=gh cd
      have e:k=r.length:=by omega
      subst e
      refine T.fin ⟨rfl,rfl,?_,?_⟩
      · dsimp only
        simp
      · rw [fy (by omega),List.length_append,hlen]
        exact hN
  · rintro ⟨t1,t2,t3,t4⟩ ⟨g1,g2,g3,g4⟩
    dsimp only at g1 g2 g3 g4
    subst g1 g2 g3
    dsimp only
    refine T.grd (iS (by rw [List.length_take]; omega)) ?_
    refine T.ret ⟨hil,?_,?_,?_⟩
    · dsimp only
      exact nk (by omega)
    · dsimp only
      rw [List.take_add_one,List.getElem?_eq_getElem (by omega),hrow]
      rfl
    · exact g4
theorem C8 (n:Nat) (c:az) (by_:Int) (hn:2000≤n) (hl:nm n=some true) (hw:yh c):T (iW n c by_) (fun b=>b=true):=by
  unfold iW
  refine T.eqb hl ?_
  refine T.ite (fun d=>by simp at d) (fun _=>?_)
  obtain ⟨b1,e1,p1⟩:=Hb n c 60 (Nat.le_refl _) (by omega)
  refine T.eqb e1 ?_
  refine T.ite (fun _=>T.ret rfl) (fun d1=>?_)
  have hc:=(p1 (uV d1)).1
  obtain ⟨r,r1,r2⟩:=Hh n c hc (by omega)
  refine T.eqb r1 ?_
  refine T.ite (fun _=>T.ret rfl) (fun d2=>?_)
  have hr0:r=0:=uW d2
  subst hr0
  have ok:=r2 rfl
  have h1:=ok.h1
  have h8:=ok.h8
  have hfr:=ok.fromLen
  have hall:=hc.all
  obtain ⟨y7,k1,k2,k3⟩:=Ih n by_ c.Harts.length h1 (by omega)
  refine T.eqb k1 ?_
  obtain ⟨b,rfl⟩:∃ b:Nat,y7=(b:Int):=⟨y7.toNat,by omega⟩
  have hb:b<c.Harts.length:=by omega
  have R:=z6 hb
  have hB:=uU c.Harts b
  have hfl:=R.flen
  refine T.eqb (Ic n _ (by have:=hc.first; omega)) ?_
  refine T.grd (by simp [Nat.blt]; omega) ?_
  refine T.bind (Hk n c _ _ hc h1 hn) (fun t10 ht=>?_)
  refine T.bind (Ij n c b _ t10 hc hb hn ht.1 ht.2) (fun t11 hm=>?_)
  obtain ⟨m,dh⟩:=t11
  obtain ⟨g1,hN⟩:=hm
  dsimp only at g1 hN
  subst g1
  have hget:∀ k:Nat,k<c.Harts.flatten.length→(b9 bo m (k:Int)).getD 0=((mr (FL c.Harts b).length c.Harts.flatten.length k:Nat):Int):=fun k hk=>by
    rw [hN.at_ k hk,if_pos (Bd hB hk),Option.getD_some]
  refine T.grd (by simp [Nat.blt]; omega) ?_
  refine T.bind (P:=fun t=>t.length=c.From.length∧∀ (i:Nat) (h:i<c.From.length),t[mr (FL c.Harts b).length c.Harts.flatten.length i]?=some (if 0≤c.From[i] then ((mr (FL c.Harts b).length c.Harts.flatten.length (c.From[i]).toNat:Nat):Int) else -1)) ?_ ?_
  · refine T.loop c.From.length (fun i s=>s.2=(i:Int)∧s.1.length=c.From.length∧∀ (j:Nat) (_:j<i) (h:j<c.From.length),s.1[mr (FL c.Harts b).length c.Harts.flatten.length j]?=some (if 0≤c.From[j] then ((mr (FL c.Harts b).length c.Harts.flatten.length (c.From[j]).toNat:Nat):Int) else -1)) _ ?_ ⟨rfl,by simp,fun j h=>by omega⟩ (by omega)
    rintro i ⟨l,s2⟩ hi ⟨e,hl,hq⟩
    dsimp only at e hl hq
    subst e
    unfold fT
    refine T.ite (fun cd=>?_) (fun cd=>T.fin ⟨hl,fun j h=>hq j (by have:=gh cd; omega) h⟩)
    have hil:i<c.From.length:=gz cd
    have hiF:i<c.Harts.flatten.length:=by omega
    have hp:=Bd hB hiF
    dsimp only
    rw [hget i hiF]
    refine T.get _ rfl (by omega) ?_
    refine T.get i rfl hil ?_
    have step:∀ v:Int,v=(if 0≤c.From[i] then ((mr (FL c.Harts b).length c.Harts.flatten.length (c.From[i]).toNat:Nat):Int) else -1)→∀ q:List Int,q.length=c.From.length→(∀ (j:Nat) (_:j<i) (h:j<c.From.length),q[mr (FL c.Harts b).length c.Harts.flatten.length j]?=some (if 0≤c.From[j] then ((mr (FL c.Harts b).length c.Harts.flatten.length (c.From[j]).toNat:Nat):Int) else -1))→∀ (j:Nat) (_:j<i + 1) (h:j<c.From.length),(q.set (mr (FL c.Harts b).length c.Harts.flatten.length i) v)[mr (FL c.Harts b).length c.Harts.flatten.length j]?=some (if 0≤c.From[j] then ((mr (FL c.Harts b).length c.Harts.flatten.length (c.From[j]).toNat:Nat):Int) else -1):=fun v hv q hql hqq j hj h=>by
      by_cases e:j=i
      · subst e
        rw [List.getElem?_set_self (by omega),hv]
      · rw [List.getElem?_set_ne (fun e2=>e (sB hB hiF (by omega) e2).symm)]
        exact hqq j (by omega) h
    have other:∀ (v:Int) (j:Nat) (_:j<i) (h:j<c.From.length),(l.set (mr (FL c.Harts b).length c.Harts.flatten.length i) v)[mr (FL c.Harts b).length c.Harts.flatten.length j]?=some (if 0≤c.From[j] then ((mr (FL c.Harts b).length c.Harts.flatten.length (c.From[j]).toNat:Nat):Int) else -1):=fun v j hj h=>by
      rw [List.getElem?_set_ne (fun e2=>by have:=sB hB hiF (by omega) e2; omega)]
      exact hq j hj h
    refine T.ite (fun d=>?_) (fun d=>?_)
    · have d:c.From[i]≥0:=of_decide_eq_true d
      refine T.get (mr (FL c.Harts b).length c.Harts.flatten.length i) rfl (by rw [List.length_set]; omega) ?_
      have fp:=wO hiF hil ok.cells (by have:=hc.first; omega) (by omega) (ok.froms i hiF)
      obtain ⟨j,hj,ej⟩:∃ j:Nat,∃ hj:j<c.Harts.flatten.length,c.From[i]=(j:Int):=by
        unfold z4 at fp
        rcases fp with ⟨_,e⟩ | ⟨_,e,_⟩ | ⟨_,j,hj,e,_⟩
        · omega
        · omega
        · exact ⟨j,hj,e⟩
      refine T.ret ⟨hil,nk (by omega),by dsimp only; rw [List.length_set,List.length_set]; exact hl,?_⟩
      dsimp only
      rw [Int.toNat_natCast,ej,hget j hj]
      exact step _ (by rw [if_pos d,ej,Int.toNat_natCast]) _ (by rw [List.length_set]; exact hl) (other _)
    · have d:¬ c.From[i]≥0:=of_decide_eq_false d
      refine T.ret ⟨hil,nk (by omega),by dsimp only; rw [List.length_set]; exact hl,?_⟩
      dsimp only
      rw [Int.toNat_natCast]
      exact step _ (by rw [if_neg (by omega)]) _ hl hq
  rintro t13 ⟨f1,f2⟩
  have hord:=hc.order
  have hbuild:=qW (l:=c.Order) (r:=c.Order.map fun x=>((mr (FL c.Harts b).length c.Harts.flatten.length x.toNat:Nat):Int)) (step:=fun s=>dj n c c.First t10 (m,lc c.Harts b) t13 s) (by rw [List.length_map]) (fun i h h'=>by
    obtain ⟨j,hj,ej,_⟩:=ok.ord i h
    unfold dj
    dsimp only
    rw [if_pos (by simp; omega),z9 h,Option.bind_some,iT (iS (by rw [List.length_take,List.length_map]; omega)),nk (by omega),List.getElem_map,ej,hget j hj,Int.toNat_natCast]) (by unfold dj; exact C3) c.Order.length 0 n (by omega) (by omega)
  have e5:iter (fun s=>dj n c c.First t10 (m,lc c.Harts b) t13 s) n (([]:List Int),0)=some (c.Order.map fun x=>((mr (FL c.Harts b).length c.Harts.flatten.length x.toNat:Nat):Int)):=hbuild
  refine T.eqb e5 ?_
  dsimp only
  generalize hd:az.mk c.First (lc c.Harts b) t13 (c.Order.map fun x=>((mr (FL c.Harts b).length c.Harts.flatten.length x.toNat:Nat):Int))=d
  have RC:yg c d b:=by subst hd; exact ⟨R,rfl,f1,f2,rfl⟩
  have dl:=RC.light hc
  have dok:=RC.ok hc ok (by omega)
  have da:=RC.addr hw
  have dc:=pe n d dl (by omega) dok
  have cc:=pe n c hc (by omega) ok
  refine T.eqb dc ?_
  refine T.ite (fun _=>?_) (fun x=>by simp at x)
  have l1:=Gb n d dl dok da hn
  have l2:=Gb n c hc ok hw hn
  rw [RC.last (n:=n) ok] at l1
  refine T.eqb l1.1 (T.eqb l2.1 ?_)
  refine T.eqb ((Ib n _ _ l2.2 hn).true_ rfl) ?_
  refine T.ite (fun _=>?_) (fun x=>by simp at x)
  refine T.eqb (Ia n d dl (by omega) dc) (T.eqb (Ia n c hc (by omega) cc) (T.ret ?_))
  rw [RC.rot.flen]
  simp
theorem Bf (c:az) (by_:Int) (hc:az.wf c) (_:u4 .i64 by_):iW 1000000 c by_=some true:=by
  obtain ⟨b,h1,h2⟩:=C8 1000000 c by_ (by omega) ER ⟨fun x hx=>(hc.1.2 x hx).1,fun e he=>by
    obtain ⟨l,hl,hel⟩:=List.mem_flatten.1 he
    exact ((hc.2.1.2 l hl).2 e hel).2.2.2.1⟩
  rw [h1,h2]
end Go.Proofs.Ytcckeabholabcaa
